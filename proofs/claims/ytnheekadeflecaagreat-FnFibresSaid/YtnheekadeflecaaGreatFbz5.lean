/-
  Rules of walks, plain functions and their laws, part 5.
  Conditions: none.
-/
import Derived.Test.YtnheekadeflecaaGreatFbz4
set_option linter.unusedSimpArgs false
set_option linter.unusedVariables false
namespace Go.Proofs.YtnheekadeflecaaGreat
theorem abs_val {n : Int} (h : n.natAbs ≤ 9223372036854775806) : zCa n = some (n.natAbs : Int) := by
 simp only [zCa, qM, mxI, jN]
 by_cases h1 : n < -9223372036854775807
 ·omega
 ·rw [decide_eq_false h1, cond_false, zW (by omega)]
  by_cases h2 : n < 0 - n
  ·rw [decide_eq_true h2, cond_true]; congr 1; omega
  ·rw [decide_eq_false h2, cond_false]; congr 1; omega
theorem zID {n : Int} (h : n.natAbs ≤ 9223372036854775806) : zCq n = some (n.natAbs : Int) := by
 simp only [zCq, zAk, Option.bind_some, jN]
 rw [zW (by omega)]
 by_cases h2 : 0 - n < n
 ·rw [decide_eq_true h2, cond_true, Option.bind_some]; congr 1; omega
 ·rw [decide_eq_false h2, cond_false, Option.bind_some]; congr 1; omega
theorem zEY {b : Int} (h : b ≠ 0) : nz b = some () := by
 unfold nz
 rw [zDO]
 have : (b == 0) = false := by rw [beq_eq_false_iff_ne]; exact h
 rw [this]
 rfl
theorem zDi {a b : Int} (h : a ≠ b) : eqI a b = false := by rw [zDO, beq_eq_false_iff_ne]; exact h
theorem zCk (a : Int) : eqI a a = true := by rw [zDO]; exact beq_self_eq_true a
theorem zHO (a b : Int) : Int.gcd b (a.tmod b) = Int.gcd a b := by
 unfold Int.gcd
 rw [Int.natAbs_tmod, Nat.gcd_comm, ← Nat.gcd_rec, Nat.gcd_comm]
theorem gcd_two {x y : Nat} (k : Nat) (hy : 0 < y) (hxy : y < x) (h : x < 2 ^ (k + 1)) : x % y < 2 ^ k := by
 have h1 := Nat.mod_lt x hy
 have h2 := Nat.div_add_mod x y
 have h3 : 1 ≤ x / y := Nat.div_pos (Nat.le_of_lt hxy) hy
 have h4 : y * 1 ≤ y * (x / y) := Nat.mul_le_mul_left y h3
 rw [Nat.pow_succ] at h
 omega
theorem gcd_run : ∀ (k n : Nat) (a b : Int), b.natAbs < 2 ^ k → 2 * k + 1 ≤ n → ∃ r, zA1 n a b = some r ∧ r.natAbs = Int.gcd a b
 | k, 0, a, b, _, hn => by omega
 | 0, n + 1, a, b, hb, hn => by
  have : b = 0 := by simp at hb; omega
  subst this
  unfold zA1
  rw [zCk]
  exact ⟨a, rfl, by simp⟩
 | k + 1, n + 1, a, b, hb, hn => by
  unfold zA1
  by_cases h0 : b = 0
  ·subst h0
   rw [zCk]
   exact ⟨a, rfl, by simp⟩
  ·rw [zDi h0, zEY h0]
   simp only [Bool.not_false, cond_true, Option.bind_some, qM]
   rw [← zHO a b]
   match n, hn with
   | n + 1, hn =>
    unfold zA1
    by_cases h1 : a.tmod b = 0
    ·rw [h1, zCk]
     exact ⟨b, rfl, by simp⟩
    ·rw [zDi h1, zEY h1]
     simp only [Bool.not_false, cond_true, Option.bind_some, qM]
     rw [← zHO b (a.tmod b)]
     refine gcd_run k n _ _ ?_ (by omega)
     rw [Int.natAbs_tmod]
     have h2 : (a.tmod b).natAbs < b.natAbs := by rw [Int.natAbs_tmod]; exact Nat.mod_lt _ (by omega)
     exact gcd_two k (by omega) h2 hb
theorem FU_succ (k : Nat) (h : k ≤ 1000000) : k ≤ FU := Nat.le_trans h (by decide)
theorem gcd_le {a b : Int} {M : Nat} (ha : a.natAbs ≤ M) (hb : b.natAbs ≤ M) : Int.gcd a b ≤ M := by
 by_cases h : b = 0
 ·subst h; simpa using ha
 ·have : Int.gcd a b ∣ b.natAbs := Nat.gcd_dvd_right _ _
  exact Nat.le_trans (Nat.le_of_dvd (by omega) this) hb
theorem zJ7 {a b : Int} (ha : a.natAbs ≤ 9223372036854775806) (hb : b.natAbs ≤ 9223372036854775806) : zD5 a b = some (Int.gcd a b : Int) := by
 obtain ⟨r, h1, h2⟩ := gcd_run 64 FU a b (by omega) (FU_succ 129 (by decide))
 have h3 := gcd_le ha hb
 simp only [zD5, h1, Option.bind_some, abs_val (n := r) (by omega), h2]
theorem sgcd_run : ∀ (n : Nat) (a b : Int), zA0 n a b = zA1 n a b
 | 0, a, b => rfl
 | n + 1, a, b => by
  unfold zA0 zA1
  simp only [qM, sgcd_run n]
theorem zH5 (a b : Int) : Int.gcd (a.natAbs : Int) (b.natAbs : Int) = Int.gcd a b := by unfold Int.gcd; simp
theorem nn_run : ∀ (n : Nat) (a b r : Int), 0 ≤ a → 0 ≤ b → zA1 n a b = some r → 0 ≤ r
 | 0, a, b, r, _, _, h => by cases h
 | n + 1, a, b, r, ha, hb, h => by
  unfold zA1 at h
  by_cases h0 : b = 0
  ·subst h0
   rw [zCk] at h
   have h : some a = some r := h
   injection h with h
   omega
  ·rw [zDi h0, zEY h0] at h
   simp only [Bool.not_false, cond_true, Option.bind_some, qM] at h
   exact nn_run n _ _ _ hb (Int.tmod_nonneg _ ha) h
theorem zIC {a b : Int} (ha : a.natAbs ≤ 9223372036854775806) (hb : b.natAbs ≤ 9223372036854775806) : zBF a b = some (Int.gcd a b : Int) := by
 obtain ⟨r, h1, h2⟩ := gcd_run 64 FU (a.natAbs : Int) (b.natAbs : Int) (by omega) (FU_succ 129 (by decide))
 have h3 := nn_run _ _ _ _ (by omega) (by omega) h1
 rw [zH5] at h2
 simp only [zBF, zID ha, zID hb, Option.bind_some, sgcd_run, h1]
 congr 1
 omega
def inN (x : Int) : Bool := leI (-1000000) x && leI x 1000000
theorem zAf {x : Int} : inN x = true ↔ -1000000 ≤ x ∧ x ≤ 1000000 := by
 unfold inN
 rw [zAN, zAN]
 simp
theorem num_run (l : List Int) (hl : l.length < 1000000) : ∀ (n i : Nat), i ≤ l.length → l.length - i < n → zAv l n (i : Int) = some (if (l.drop i).all inN then .inl () else .inr false)
 | 0, i, _, h => by omega
 | n + 1, i, hi, h => by
  unfold zAv
  rw [jN]
  by_cases h1 : (i : Int) < (l.length : Int)
  ·have h2 : i < l.length := by omega
   rw [decide_eq_true h1, cond_true]
   have h3 : getI l (i : Int) = some l[i] := by
    unfold getI
    rw [zAN, decide_eq_true (by omega : (0 : Int) ≤ (i : Int)), cond_true]
    simp [h2]
   rw [h3, Option.bind_some, List.drop_eq_getElem_cons h2, List.all_cons]
   simp only [jN, inN, zAN, qM]
   rw [zW (by omega)]
   have ih := num_run l hl n (i + 1) (by omega) (by omega)
   rw [show ((i : Int) + 1) = ((i + 1 : Nat) : Int) by omega, ih]
   by_cases h4 : l[i] < -1000000
   ·have h6 : ¬ (-1000000 ≤ l[i]) := by omega
    simp [h4, h6]
   ·by_cases h5 : 1000000 < l[i]
    ·have h6 : ¬ (l[i] ≤ 1000000) := by omega
     simp [h4, h5, h6]
    ·have h6 : -1000000 ≤ l[i] := by omega
     have h7 : l[i] ≤ 1000000 := by omega
     simp only [h4, h5, h6, h7, decide_true, decide_false, cond_false, cond_true, Bool.and_true, Bool.true_and]
  ·rw [decide_eq_false h1, cond_false, List.drop_eq_nil_of_le (by omega)]
   rfl
theorem zJ5 (l : List Int) (hl : l.length < 1000000) : zBK l = some (l.all inN) := by
 have h := num_run l hl FU 0 (Nat.zero_le _) (by (have : (1000000 : Nat) ≤ FU := by decide); omega)
 simp only [zBK, show (0 : Int) = ((0 : Nat) : Int) from rfl, h, List.drop_zero]
 cases l.all inN <;> rfl
theorem good_val (n : Int) : zC9 n = some (inN n) := by
 simp only [zC9, zCW, Option.bind_some, inN]
 cases leI (-1000000) n <;> rfl
theorem zFt (f : Int × Int × Int) : zCb f = some (inN f.1 && (inN f.2.1 && inN f.2.2)) := by
 simp only [zCb, zJ5 _ (show [f.1, f.2.1, f.2.2].length < 1000000 by simp), Option.bind_some, List.all_cons, List.all_nil, Bool.and_true]
theorem sform_val (f : Int × Int × Int) : zDI f = some (inN f.1 && (inN f.2.1 && inN f.2.2)) := by
 simp only [zDI, good_val, Option.bind_some]
 cases inN f.1 <;> cases inN f.2.1 <;> cases inN f.2.2 <;> rfl
theorem zI1 : jD = zY := rfl
theorem zKL {a b c : Int} (ha : inN a = true) (hb : inN b = true) (hc : inN c = true) : zY (a, b, c) = some (b * b - 4 * a * c) := by
 rw [zAf] at ha hb hc
 have m1 := qG (x := b) (y := b) (A := 1000000) (B := 1000000) (by omega) (by omega)
 have m2 := qG (x := 4 * a) (y := c) (A := 4000000) (B := 1000000) (by omega) (by omega)
 simp only [zY, qM]
 rw [jQ (n := b * b) (by omega), jQ (n := 4 * a) (by omega), jQ (n := 4 * a * c) (by omega), jQ (by omega)]
theorem def_val (f : Int × Int × Int) : zCY f = qZ f := by
 simp only [zCY, qZ, zFt, sform_val, zI1]
theorem shown_val (f : Int × Int × Int) : zDx f = jM f := by
 simp only [zDx, jM, def_val, zI1]
theorem zEN {a b c : Int} (ha : inN a = true) (hb : inN b = true) (hc : inN c = true) : jX (a, b, c) = some (Int.gcd a (Int.gcd b c) : Int) := by
 rw [zAf] at ha hb hc
 have h := gcd_le (a := b) (b := c) (M := 1000000) (by omega) (by omega)
 simp only [jX, zJ7 (a := b) (b := c) (by omega) (by omega), Option.bind_some]
 rw [zJ7 (by omega) (by omega)]
 rfl
theorem scontent_val {a b c : Int} (ha : inN a = true) (hb : inN b = true) (hc : inN c = true) : zAH (a, b, c) = some (Int.gcd a (Int.gcd b c) : Int) := by
 rw [zAf] at ha hb hc
 have h := gcd_le (a := a) (b := b) (M := 1000000) (by omega) (by omega)
 simp only [zAH, zIC (a := a) (b := b) (by omega) (by omega), Option.bind_some]
 rw [zIC (by omega) (by omega), Option.bind_some]
 congr 2
 unfold Int.gcd
 simp [Nat.gcd_assoc]
theorem zHc {a b c : Int} (h : jM (a, b, c) = some true) : inN a = true ∧ inN b = true ∧ inN c = true ∧ b * b - 4 * a * c < 0 ∧ -2000 ≤ b * b - 4 * a * c ∧ 0 < a := by
 simp only [jM, qZ, zFt, Option.bind_some] at h
 cases ha : inN a <;> cases hb : inN b <;> cases hc : inN c <;> simp only [ha, hb, hc, Bool.and_true, Bool.and_false, Bool.true_and, Bool.false_and, cond_true, cond_false, Option.bind_some] at h
 all_goals first
  | (exfalso; exact absurd (zB h) (by decide))
  | skip
 rw [zKL ha hb hc] at h
 simp only [Option.bind_some, jN, zAN] at h
 by_cases h1 : b * b - 4 * a * c < 0 <;> by_cases h2 : 0 < a <;> by_cases h3 : -2000 ≤ b * b - 4 * a * c <;> simp [h1, h2, h3] at h
 exact ⟨rfl, rfl, rfl, h1, h3, h2⟩
theorem def_some (f : Int × Int × Int) : ∃ b, qZ f = some b := by
 simp only [qZ, zFt, Option.bind_some, zY, qM]
 cases (inN f.1 && (inN f.2.1 && inN f.2.2)) <;> exact ⟨_, rfl⟩
theorem zHd (f : Int × Int × Int) : ∃ b, jM f = some b := by
 obtain ⟨b, hb⟩ := def_some f
 simp only [jM, hb, Option.bind_some, zY, qM]
 cases b <;> exact ⟨_, rfl⟩
theorem class_val (f : Int × Int × Int) : zBB f = qC f := by
 simp only [zBB, qC, shown_val]
 obtain ⟨b, hb⟩ := zHd f
 rw [hb]
 cases b with
 | false => rfl
 | true =>
  obtain ⟨a, b, c⟩ := f
  obtain ⟨ha, hb, hc, _⟩ := zHc hb
  simp only [Option.bind_some, cond_true, zEN ha hb hc, scontent_val ha hb hc]
theorem class_some (f : Int × Int × Int) : ∃ b, qC f = some b := by
 obtain ⟨b, hb⟩ := zHd f
 simp only [qC, hb, Option.bind_some]
 cases b with
 | false => exact ⟨_, rfl⟩
 | true =>
  obtain ⟨a, b, c⟩ := f
  obtain ⟨ha, hb, hc, _⟩ := zHc hb
  simp only [Option.bind_some, cond_true, zEN ha hb hc]
  exact ⟨_, rfl⟩
theorem zFS {a b c : Int} (h : qC (a, b, c) = some true) : inN a = true ∧ inN b = true ∧ inN c = true ∧ b * b - 4 * a * c < 0 ∧ -2000 ≤ b * b - 4 * a * c ∧ 0 < a ∧ Int.gcd a (Int.gcd b c) = 1 := by
 simp only [qC] at h
 obtain ⟨s, hs⟩ := zHd (a, b, c)
 rw [hs] at h
 cases s with
 | false => exfalso; exact absurd (zB h) (by decide)
 | true =>
  obtain ⟨h1, h2, h3, h4, h5, h6⟩ := zHc hs
  simp only [Option.bind_some, cond_true, zEN h1 h2 h3, zDO] at h
  have h7 := zB h
  refine ⟨h1, h2, h3, h4, h5, h6, ?_⟩
  have := eq_of_beq h7
  omega
theorem prime_run (v : Int) : ∀ (n : Nat) (d : Int), zBj v n d = zAd v n d
 | 0, d => rfl
 | n + 1, d => by
  unfold zBj zAd
  simp only [qM, prime_run v n]
theorem prime_eq (v : Int) : zD1 v = j7 v := by
 unfold zD1 j7
 rw [prime_run]
theorem zGr (v : Int) (hv : v ≤ 1000000) : ∀ (n : Nat) (d : Int), 1 ≤ d → d ≤ 1001 → 1002 - d ≤ n → ∃ r, zAd v n d = some r
 | 0, d, h1, h2, h3 => by omega
 | n + 1, d, h1, h2, h3 => by
  unfold zAd
  have m1 := qG (x := d) (y := d) (A := 1001) (B := 1001) (by omega) (by omega)
  rw [jQ (n := d * d) (by omega), zAN]
  by_cases h4 : d * d ≤ v
  ·have h5 : d ≤ 1000 := by
    rcases Int.lt_or_le 1000 d with h | h
    ·have : 1001 * 1001 ≤ d * d := Int.mul_le_mul (by omega) (by omega) (by omega) (by omega)
     omega
    ·exact h
   rw [decide_eq_true h4, cond_true, zEY (by omega), Option.bind_some]
   cases eqI (Int.tmod v d) 0 with
   | true => exact ⟨_, rfl⟩
   | false =>
    simp only [cond_false, qM]
    rw [zW (by omega)]
    exact zGr v hv n (d + 1) (by omega) (by omega) (by omega)
  ·rw [decide_eq_false h4, cond_false]
   exact ⟨_, rfl⟩
theorem prime_some (v : Int) (hv : v ≤ 1000000) : ∃ b, j7 v = some b := by
 unfold j7
 cases ltI v 2 with
 | true => exact ⟨_, rfl⟩
 | false =>
  obtain ⟨r, hr⟩ := zGr v hv FU 2 (by omega) (by omega) (by (have : (1002 : Nat) ≤ FU := by decide); omega)
  rw [cond_false, hr]
  cases r <;> exact ⟨_, rfl⟩
theorem negdisc_eq (d : Int) : zAj d = qF d := by
 simp only [zAj, zCW, qF, Option.bind_some, zIZ]
 cases h : (bif leI (-2000) d then leI d (-3) else false) with
 | false => rfl
 | true =>
  simp only [cond_true]
  rw [zD7 (by omega) (by omega)]
  simp only [Option.bind_some, jN, zAN]
  congr 1
  simp only [decide_eq_decide]
  omega
theorem zF6 (d : Int) : qF d = some (decide (-2000 ≤ d ∧ d ≤ -3 ∧ d % 4 ≤ 1)) := by
 simp only [qF, zAN]
 by_cases h1 : -2000 ≤ d <;> by_cases h2 : d ≤ -3 <;> simp [h1, h2]
 rw [zD7 (by omega) (by omega)]
 rfl
structure RedInv (a b c d g : Int) : Prop where
  a1 : 1 ≤ a
  aM : a ≤ 1000000
  b1 : -1900000 ≤ b
  b2 : b ≤ 1900000
  c1 : 1 ≤ c
  cM : c ≤ 1250000
  dis : b * b - 4 * a * c = d
  neg : d < 0
  nrm : (-a < b ∧ b ≤ a) ∨ c ≤ 1000000
  con : ∀ k : Int, (k ∣ a ∧ k ∣ b ∧ k ∣ c) ↔ k ∣ g
def zBA (a b c : Int) : Prop := (-a < b ∧ b ≤ a) ∧ (a < c ∨ (a = c ∧ 0 ≤ b))
instance (a b c : Int) : Decidable (zBA a b c) := inferInstanceAs (Decidable ((-a < b ∧ b ≤ a) ∧ (a < c ∨ (a = c ∧ 0 ≤ b))))
theorem zFg {a b c : Int} (ha : 1 ≤ a) (haM : a ≤ 1000000) : jA (a, b, c) = some (decide (zBA a b c)) := by
 have hn : qL (a, b, c) = some (decide (-a < b ∧ b ≤ a)) := by
  simp only [qL, Option.bind_some, jN, zAN]
  rw [zW (by omega)]
  by_cases h1 : -a < b <;> by_cases h2 : b ≤ a <;> simp [h1, h2]
  all_goals omega
 simp only [jA, hn, Option.bind_some, jN, zAN, zDO]
 unfold zBA
 by_cases h1 : -a < b <;> by_cases h2 : b ≤ a <;> by_cases h3 : a < c <;> by_cases h4 : a = c <;> by_cases h5 : 0 ≤ b <;> simp [h1, h2, h3, h4, h5]
theorem red_step {a b c d g : Int} (h : RedInv a b c d g) (hr : ¬ zBA a b c) : ∃ m a2 b2 c2, qW (a, b, c) = some m ∧ zQ (a, b, c) m = some (a2, b2, c2) ∧ RedInv a2 b2 c2 d g ∧
  ((¬ (-a < b ∧ b ≤ a) ∧ a2 = a ∧ (-a2 < b2 ∧ b2 ≤ a2)) ∨ ((-a < b ∧ b ≤ a) ∧ a2 < a) ∨ ((-a < b ∧ b ≤ a) ∧ zBA a2 b2 c2 ∧ a2 ≤ a)) := by
 obtain ⟨a1, aM, b1, b2, c1, cM, dis, neg, nrm, con⟩ := h
 have hn : qL (a, b, c) = some (decide (-a < b ∧ b ≤ a)) := by
  simp only [qL, Option.bind_some, jN, zAN]
  rw [zW (by omega)]
  by_cases h1 : -a < b <;> by_cases h2 : b ≤ a <;> simp [h1, h2]
  all_goals omega
 by_cases hN : -a < b ∧ b ≤ a
 ·have hst : qW (a, b, c) = some (0, -1, 1, 0) := by
   simp only [qW, zFg a1 aM, hn, Option.bind_some, decide_eq_false hr, decide_eq_true hN]
   rfl
  refine ⟨_, c, -b, a, hst, zI0 (by omega) (by omega) (by omega), ?_, ?_⟩
  ·have hca : c ≤ a := by
    unfold zBA at hr
    have : ¬ (a < c ∨ (a = c ∧ 0 ≤ b)) := fun x => hr ⟨hN, x⟩
    omega
   exact ⟨c1, by omega, by omega, by omega, a1, by omega, by grind, neg, .inr aM, fun k => by rw [← con k, Int.dvd_neg]; exact ⟨fun h => ⟨h.2.2, h.2.1, h.1⟩, fun h => ⟨h.2.2, h.2.1, h.1⟩⟩⟩
  ·have h2 : ¬ (a < c ∨ (a = c ∧ 0 ≤ b)) := fun x => hr ⟨hN, x⟩
   by_cases hac : a = c
   ·refine .inr (.inr ⟨hN, ⟨?_, .inr ?_⟩, ?_⟩) <;> omega
   ·exact .inr (.inl ⟨hN, by omega⟩)
 ·have hf := zEn (a := a - b) (m := 2 * a) (by omega) (by omega) (by omega) (by omega)
  have e1 := Int.emod_nonneg (a - b) (b := 2 * a) (by omega)
  have e2 := Int.emod_lt_of_pos (a - b) (b := 2 * a) (by omega)
  have e3 := Int.emod_add_mul_ediv (a - b) (2 * a)
  generalize hs : (a - b) / (2 * a) = s at *
  generalize hq : (a - b) % (2 * a) = q at *
  have hs1 : s ≤ 1000000 := by
   rcases Int.lt_or_le 1000000 s with h | h
   ·have : 2 * a * 1000001 ≤ 2 * a * s := Int.mul_le_mul_of_nonneg_left (by omega) (by omega)
    omega
   ·exact h
  have hs2 : -1000001 ≤ s := by
   rcases Int.lt_or_le s (-1000001) with h | h
   ·have : 2 * a * s ≤ 2 * a * (-1000002) := Int.mul_le_mul_of_nonneg_left (by omega) (by omega)
    omega
   ·exact h
  have hst : qW (a, b, c) = some (1, s, 0, 1) := by
   simp only [qW, zFg a1 aM, hn, Option.bind_some, decide_eq_false hr, decide_eq_false hN, cond_false, Bool.not_false, cond_true]
   rw [zW (n := a - b) (by omega), zW (n := 2 * a) (by omega), hf]
   rfl
  have hb : -a < 2 * a * s + b ∧ 2 * a * s + b ≤ a := by omega
  have hid : 4 * a * (a * s * s + b * s + c) = (2 * a * s + b) * (2 * a * s + b) - d := by grind
  have hsq : 0 ≤ (2 * a * s + b) * (2 * a * s + b) := by
   rcases Int.le_total 0 (2 * a * s + b) with h | h
   ·exact Int.mul_nonneg h h
   ·exact Int.mul_nonneg_of_nonpos_of_nonpos h h
  have hsq2 : (2 * a * s + b) * (2 * a * s + b) ≤ a * a := by
   have := qG (x := 2 * a * s + b) (y := 2 * a * s + b) (A := a.natAbs) (B := a.natAbs) (by omega) (by omega)
   have h2 : ((2 * a * s + b) * (2 * a * s + b)).natAbs ≤ (a * a).natAbs := by rw [Int.natAbs_mul a a]; exact this
   have h3 : 0 ≤ a * a := Int.mul_nonneg (by omega) (by omega)
   omega
  have hbb : 0 ≤ b * b := by
   rcases Int.le_total 0 b with h | h
   ·exact Int.mul_nonneg h h
   ·exact Int.mul_nonneg_of_nonpos_of_nonpos h h
  have hc : 1 ≤ a * s * s + b * s + c := by
   rcases Int.lt_or_le 0 (a * s * s + b * s + c) with h | h
   ·exact h
   ·have : 4 * a * (a * s * s + b * s + c) ≤ 4 * a * 0 := Int.mul_le_mul_of_nonneg_left h (by omega)
    omega
  have hcc : c ≤ 1000000 := nrm.resolve_left hN
  have hcM : a * s * s + b * s + c ≤ 1250000 := by
   have h4 : 4 * a * (a * s * s + b * s + c) ≤ a * a + 4 * a * c := by omega
   have h5 : a * a + 4 * a * c ≤ a * 5000000 := by
    have : a * (a + 4 * c) ≤ a * 5000000 := Int.mul_le_mul_of_nonneg_left (by omega) (by omega)
    have e : a * (a + 4 * c) = a * a + 4 * a * c := by grind
    omega
   rcases Int.lt_or_le 1250000 (a * s * s + b * s + c) with h | h
   ·have : 4 * a * 1250001 ≤ 4 * a * (a * s * s + b * s + c) := Int.mul_le_mul_of_nonneg_left (by omega) (by omega)
    omega
   ·exact h
  have hcon : ∀ k : Int, (k ∣ a ∧ k ∣ 2 * a * s + b ∧ k ∣ a * s * s + b * s + c) ↔ k ∣ g := by
   intro k
   rw [← con k]
   constructor
   ·rintro ⟨u1, u2, u3⟩
    have v1 : k ∣ b := by
     have w1 : k ∣ 2 * a * s := Int.dvd_mul_of_dvd_left (Int.dvd_mul_of_dvd_right u1)
     exact (Int.dvd_add_right w1).1 u2
    have w2 : k ∣ a * s * s + b * s := Int.dvd_add (Int.dvd_mul_of_dvd_left (Int.dvd_mul_of_dvd_left u1)) (Int.dvd_mul_of_dvd_left v1)
    exact ⟨u1, v1, (Int.dvd_add_right w2).1 u3⟩
   ·rintro ⟨u1, u2, u3⟩
    have w1 : k ∣ 2 * a * s := Int.dvd_mul_of_dvd_left (Int.dvd_mul_of_dvd_right u1)
    have w2 : k ∣ a * s * s + b * s := Int.dvd_add (Int.dvd_mul_of_dvd_left (Int.dvd_mul_of_dvd_left u1)) (Int.dvd_mul_of_dvd_left u2)
    exact ⟨u1, Int.dvd_add w1 u2, Int.dvd_add w2 u3⟩
  refine ⟨_, a, 2 * a * s + b, a * s * s + b * s + c, hst, zGL (by omega) (by omega) (by omega) (by omega), ⟨a1, aM, by omega, by omega, hc, hcM, by grind, neg, .inl hb, hcon⟩, .inl ⟨hN, rfl, hb⟩⟩
theorem times_some (m n : Int × Int × Int × Int) : ∃ y, qB m n = some y := by
 simp only [qB, qM]
 exact ⟨_, rfl⟩
theorem red_run : ∀ (n : Nat) (a b c d g p q r s : Int), RedInv a b c d g → 4 * a + (if -a < b ∧ b ≤ a then 0 else 2) + (if zBA a b c then 0 else 1) ≤ (n : Int) →
  ∃ m1 m2 m3 m4 a2 b2 c2, zAQ n p q r s a b c = some (m1, m2, m3, m4, a2, b2, c2) ∧ zB0 n p q r s a b c = some (m1, m2, m3, m4, a2, b2, c2) ∧ RedInv a2 b2 c2 d g ∧ zBA a2 b2 c2
 | 0, a, b, c, d, g, p, q, r, s, h, hm => by
  have := h.a1
  split at hm <;> split at hm <;> omega
 | n + 1, a, b, c, d, g, p, q, r, s, h, hm => by
  unfold zAQ zB0
  rw [dsc_is, zFg h.a1 h.aM]
  by_cases hr : zBA a b c
  ·refine ⟨p, q, r, s, a, b, c, ?_, ?_, h, hr⟩ <;> simp [hr]
  ·obtain ⟨m, a2, b2, c2, h1, h2, h3, h4⟩ := red_step h hr
   obtain ⟨y, hy⟩ := times_some (p, q, r, s) m
   obtain ⟨y1, y2, y3, y4⟩ := y
   have hstep : zDH (a, b, c) = qW (a, b, c) := dsc_step h.a1 (by have := h.aM; omega) (by have := h.b1; omega) (by have := h.b2; omega) (by rw [zFg h.a1 h.aM, decide_eq_false hr])
   have e1 : (!decide (zBA a b c)) = true := by simp [hr]
   simp only [Option.bind_some, hstep, h1, dsc_act, dsc_mul, h2, hy, e1, cond_true]
   refine red_run n a2 b2 c2 d g y1 y2 y3 y4 h3 ?_
   rcases h4 with ⟨g1, g2, g3⟩ | ⟨g1, g2⟩ | ⟨g1, g2, g3⟩
   ·rw [if_neg g1, if_neg hr] at hm
    rw [if_pos g3]
    split <;> omega
   ·rw [if_pos g1, if_neg hr] at hm
    split <;> split <;> omega
   ·rw [if_pos g1, if_neg hr] at hm
    rw [if_pos g2.1, if_pos g2]
    omega
theorem red_both {a b c d g : Int} (h : RedInv a b c d g) : ∃ m a2 b2 c2, jI (a, b, c) = some ((a2, b2, c2), m) ∧ jY (a, b, c) = some ((a2, b2, c2), m) ∧ RedInv a2 b2 c2 d g ∧ zBA a2 b2 c2 := by
 obtain ⟨m1, m2, m3, m4, a2, b2, c2, h1, h2, h3, h4⟩ := red_run FU a b c d g 1 0 0 1 h (by
  have e : ((FU : Nat) : Int) = 1000000000 := rfl
  rw [e]
  have := h.aM
  split <;> split <;> omega)
 refine ⟨(m1, m2, m3, m4), a2, b2, c2, ?_, ?_, h3, h4⟩
 ·simp only [jI, zCv, Option.bind_some, h1]
 ·simp only [jY, h2, Option.bind_some]
theorem red_of_class {a b c : Int} (h : qC (a, b, c) = some true) : RedInv a b c (b * b - 4 * a * c) 1 := by
 obtain ⟨ha, hb, hc, hneg, hbig, hpos, hg⟩ := zFS h
 rw [zAf] at ha hb hc
 have hbb : 0 ≤ b * b := by
  rcases Int.le_total 0 b with h | h
  ·exact Int.mul_nonneg h h
  ·exact Int.mul_nonneg_of_nonpos_of_nonpos h h
 have hc1 : 1 ≤ c := by
  rcases Int.lt_or_le 0 c with h | h
  ·exact h
  ·have : 4 * a * c ≤ 4 * a * 0 := Int.mul_le_mul_of_nonneg_left h (by omega)
   omega
 refine ⟨by omega, by omega, by omega, by omega, hc1, by omega, rfl, hneg, .inr (by omega), fun k => ?_⟩
 constructor
 ·rintro ⟨u1, u2, u3⟩
  have h1 : k ∣ (Int.gcd b c : Int) := Int.dvd_coe_gcd u2 u3
  have h2 : k ∣ (Int.gcd a (Int.gcd b c) : Int) := Int.dvd_coe_gcd u1 h1
  rw [hg] at h2
  exact h2
 ·intro h1
  exact ⟨Int.dvd_trans h1 (Int.one_dvd _), Int.dvd_trans h1 (Int.one_dvd _), Int.dvd_trans h1 (Int.one_dvd _)⟩
theorem FUge : 1000000 ≤ FU := by decide
theorem nzOk {b : Int} (h : b ≠ 0) : nz b = some () := by
 unfold nz
 rw [zDO]
 have : (b == 0) = false := by rw [beq_eq_false_iff_ne]; exact h
 rw [this]
 rfl
theorem zIr {n : Nat} (h : n ≤ 1000000000) : room n = some () := by
 unfold room
 rw [Nat.ble_eq_true_of_le (by omega), cond_true]
theorem zEv {α : Type} {l : List α} {k : Nat} (hk : k < l.length) : getI l (k : Int) = some (l[k]'hk) := by
 unfold getI
 rw [zAN, decide_eq_true (by omega), cond_true]
 simp
theorem zFn {k : Nat} (h : k < 1000000000) : w64 ((k : Int) + 1) = ((k + 1 : Nat) : Int) := by rw [zW (by omega)]; push_cast; omega
def upz : Nat → Int → List Int
 | 0, _ => []
 | f + 1, y => y :: upz f (y + 1)
theorem mem_upz : ∀ (f : Nat) (y z : Int), z ∈ upz f y ↔ y ≤ z ∧ z < y + f
 | 0, y, z => by simp [upz]
 | f + 1, y, z => by
  rw [upz, List.mem_cons, mem_upz f (y + 1) z]
  push_cast
  omega
theorem upz_lt : ∀ (f : Nat) (y : Int), (upz f y).Pairwise (· < ·)
 | 0, y => List.Pairwise.nil
 | f + 1, y => by
  rw [upz, List.pairwise_cons]
  refine ⟨fun z hz => ?_, upz_lt f (y + 1)⟩
  have := (mem_upz f (y + 1) z).1 hz
  omega
theorem upz_len : ∀ (f : Nat) (y : Int), (upz f y).length = f
 | 0, y => rfl
 | f + 1, y => by rw [upz, List.length_cons, upz_len f (y + 1)]
theorem sred_is {a b c : Int} (ha : 1 ≤ a) (haM : a ≤ 1000000) : zCn (a, b, c) = some (decide (zBA a b c)) := by rw [dsc_is]; exact zFg ha haM
def cfR (d a b : Int) : Int × Int × Int := (a, b, Int.tdiv (b * b - d) (4 * a))
def okR (d : Int) (f : Int × Int × Int) : Bool := eqI (f.2.1 * f.2.1 - 4 * f.1 * f.2.2) d && decide (zBA f.1 f.2.1 f.2.2)
def rowR (d a : Int) (n : Nat) (b : Int) : List (Int × Int × Int) := ((upz n b).map (cfR d a)).filter (okR d)
theorem zGn {d a b : Int} {n : Nat} {f : Int × Int × Int} (h : f ∈ rowR d a n b) : f.1 = a := by
 unfold rowR at h
 obtain ⟨b', _, hb⟩ := List.mem_map.1 (List.mem_filter.1 h).1
 rw [← hb]; rfl
theorem tdiv_le {x m : Int} (hm : 1 ≤ m) : (Int.tdiv x m).natAbs ≤ x.natAbs := by
 rw [Int.natAbs_tdiv]
 exact Nat.div_le_self _ _
theorem zGm {d a : Int} (ha1 : 1 ≤ a) (ha : a ≤ 1000) (hd1 : -2000 ≤ d) (hd2 : d ≤ -3) : ∀ (m fu : Nat) (b : Int) (acc : List (Int × Int × Int)), b + m = a + 1 → -1000 ≤ b → m < fu → acc.length + m ≤ 100000000 →
  zAr a d fu b acc = some (acc ++ rowR d a m b)
 | m, 0, b, acc, _, _, h, _ => by omega
 | 0, fu + 1, b, acc, hb, hb0, hf, hl => by
  rw [zAr, zAN, decide_eq_false (by omega), cond_false]
  simp [rowR, upz]
 | m + 1, fu + 1, b, acc, hb, hb0, hf, hl => by
  rw [zAr, zAN, decide_eq_true (by omega), cond_true]
  have b1 := qG (x := b) (y := b) (A := 1000) (B := 1000) (by omega) (by omega)
  have e4 : w64 (4 * a) = 4 * a := zW (by omega)
  have e5 : w64 (w64 (b * b) - d) = b * b - d := by rw [jQ (n := b * b) (by omega), jQ (by omega)]
  have q1 := tdiv_le (x := b * b - d) (m := 4 * a) (by omega)
  generalize hc : Int.tdiv (b * b - d) (4 * a) = c at q1
  have b2 := qG (x := 4 * a) (y := c) (A := 4000) (B := 1002000) (by omega) (by omega)
  have ed : jD (a, b, c) = some (b * b - 4 * a * c) := by
   simp only [jD, qM]
   rw [jQ (n := b * b) (by omega), e4, jQ (n := 4 * a * c) (by omega), jQ (by omega)]
  have ew : w64 (b + 1) = b + 1 := zW (by omega)
  have hcf : cfR d a b = (a, b, c) := by unfold cfR; rw [hc]
  rw [e4, nzOk (by omega), e5, hc, jQ (n := c) (by omega)]
  simp only [Option.bind_some, qM, ed, sred_is ha1 (show a ≤ 1000000 by omega), ew]
  have hrow : rowR d a (m + 1) b = (if okR d (a, b, c) then [(a, b, c)] else []) ++ rowR d a m (b + 1) := by
   unfold rowR
   rw [upz, List.map_cons, List.filter_cons, hcf]
   cases okR d (a, b, c) <;> simp
  rw [hrow]
  unfold okR
  dsimp only
  cases h1 : eqI (b * b - 4 * a * c) d with
  | true =>
   rw [cond_true]
   simp only [Option.bind_some, Bool.true_and]
   cases h2 : decide (zBA a b c) with
   | true =>
    rw [cond_true, zIr (by simp; omega)]
    simp only [Option.bind_some]
    rw [zGm ha1 ha hd1 hd2 m fu (b + 1) _ (by omega) (by omega) (by omega) (by simp; omega)]
    simp
   | false =>
    rw [cond_false]
    rw [zGm ha1 ha hd1 hd2 m fu (b + 1) _ (by omega) (by omega) (by omega) (by omega)]
    simp
  | false =>
   rw [cond_false]
   simp only [Option.bind_some, Bool.false_and, cond_false]
   rw [zGm ha1 ha hd1 hd2 m fu (b + 1) _ (by omega) (by omega) (by omega) (by omega)]
   simp
theorem zF1 {a b : Int} (h0 : 0 ≤ a) (h : a ≤ b) : a * a ≤ b * b := Int.mul_le_mul h h h0 (by omega)
theorem zIf {d : Int} (hd1 : -2000 ≤ d) (hd2 : d ≤ -3) : ∀ (m fu : Nat) (a : Int) (acc : List (Int × Int × Int)), 1 ≤ a → a + m = 27 → m < fu → (acc.length : Int) ≤ 1000 * a →
  ∃ L, zBQ d fu a acc = some (acc ++ L) ∧ (L.length : Int) + 1000 * a ≤ 28000 ∧ (∀ f, f ∈ L ↔ a ≤ f.1 ∧ 3 * f.1 * f.1 ≤ -d ∧ f ∈ rowR d f.1 (2 * f.1).toNat (1 - f.1)) ∧ ∃ asq : List Int, asq.Pairwise (· < ·) ∧ (∀ x ∈ asq, a ≤ x ∧ x ≤ 26) ∧ L = asq.flatMap fun a => rowR d a (2 * a).toNat (1 - a)
 | m, 0, a, acc, _, _, h, _ => by omega
 | m, fu + 1, a, acc, ha, hm, hf, hl => by
  have b1 := qG (x := 3 * a) (y := a) (A := 81) (B := 27) (by omega) (by omega)
  have e1 : w64 (w64 (3 * a) * a) = 3 * a * a := by rw [zW (n := 3 * a) (by omega), jQ (by omega)]
  have e2 : w64 (0 - d) = -d := by rw [zW (by omega)]; omega
  rw [zBQ, e1, e2, zAN]
  by_cases h : 3 * a * a ≤ -d
  ·have ha2 : a ≤ 26 := by
    rcases Int.lt_or_le 26 a with h2 | h2
    ·have h3 := zF1 (a := 27) (b := a) (by omega) (by omega)
     have e : 3 * a * a = 3 * (a * a) := by grind
     omega
    ·exact h2
   obtain ⟨m', rfl⟩ : ∃ m', m = m' + 1 := ⟨m - 1, by omega⟩
   have hF := FUge
   rw [decide_eq_true h, cond_true, zW (n := 1 - a) (by omega), zW (n := a + 1) (by omega)]
   simp only [qM]
   rw [zGm ha (by omega) hd1 hd2 (2 * a).toNat FU (1 - a) acc (by omega) (by omega) (by omega) (by omega)]
   simp only [Option.bind_some]
   have hrl : (rowR d a (2 * a).toNat (1 - a)).length ≤ (2 * a).toNat := by
    unfold rowR
    refine Nat.le_trans (List.length_filter_le _ _) ?_
    rw [List.length_map, upz_len]
    exact Nat.le_refl _
   obtain ⟨L, k1, k2, k3, asq, k4, k5, k6⟩ := zIf hd1 hd2 m' fu (a + 1) (acc ++ rowR d a (2 * a).toNat (1 - a)) (by omega) (by omega) (by omega) (by rw [List.length_append]; omega)
   refine ⟨rowR d a (2 * a).toNat (1 - a) ++ L, by rw [k1, List.append_assoc], by rw [List.length_append]; omega, fun f => ?_, a :: asq, ?_, ?_, ?_⟩
   ·rw [List.mem_append, k3]
    constructor
    ·rintro (h1 | ⟨h1, h2, h3⟩)
     ·rw [zGn h1]
      exact ⟨Int.le_refl _, h, h1⟩
     ·exact ⟨by omega, h2, h3⟩
    ·rintro ⟨h1, h2, h3⟩
     by_cases hfa : f.1 = a
     ·rw [hfa] at h3; exact .inl h3
     ·exact .inr ⟨by omega, h2, h3⟩
   ·rw [List.pairwise_cons]
    exact ⟨fun x hx => by have := k5 x hx; omega, k4⟩
   ·intro x hx
    rcases List.mem_cons.1 hx with e | e
    ·omega
    ·have := k5 x e; omega
   ·rw [List.flatMap_cons, k6]
  ·rw [decide_eq_false h, cond_false]
   refine ⟨[], by simp, by simp; omega, fun f => ?_, [], List.Pairwise.nil, fun x hx => (by cases hx), rfl⟩
   refine ⟨fun hf => (by cases hf), fun hf => ?_⟩
   obtain ⟨h1, h2, h3⟩ := hf
   exfalso
   have h4 := zF1 (a := a) (b := f.1) (by omega) h1
   have e3 : 3 * a * a = 3 * (a * a) := by grind
   have e4 : 3 * f.1 * f.1 = 3 * (f.1 * f.1) := by grind
   omega
theorem tgcd_run : ∀ (k n : Nat) (a b : Int), 0 ≤ a → 0 ≤ b → b.natAbs < 2 ^ k → 2 * k + 1 ≤ n → ∃ r, zA0 n a b = some r ∧ r.natAbs = Int.gcd a b ∧ 0 ≤ r
 | k, 0, a, b, _, _, _, hn => by omega
 | 0, n + 1, a, b, ha, hb0, hb, hn => by
  have : b = 0 := by simp at hb; omega
  subst this
  unfold zA0
  rw [zCk]
  exact ⟨a, rfl, by simp, ha⟩
 | k + 1, n + 1, a, b, ha, hb0, hb, hn => by
  unfold zA0
  by_cases h0 : b = 0
  ·subst h0
   rw [zCk]
   exact ⟨a, rfl, by simp, ha⟩
  ·rw [zDi h0, zEY h0]
   simp only [Bool.not_false, cond_true, Option.bind_some, qM]
   rw [← zHO a b]
   match n, hn with
   | n + 1, hn =>
    unfold zA0
    by_cases h1 : a.tmod b = 0
    ·rw [h1, zCk]
     exact ⟨b, rfl, by simp, hb0⟩
    ·rw [zDi h1, zEY h1]
     simp only [Bool.not_false, cond_true, Option.bind_some, qM]
     rw [← zHO b (a.tmod b)]
     refine tgcd_run k n _ _ (Int.tmod_nonneg _ ha) (Int.tmod_nonneg _ hb0) ?_ (by omega)
     rw [Int.natAbs_tmod]
     have h2 : (a.tmod b).natAbs < b.natAbs := by rw [Int.natAbs_tmod]; exact Nat.mod_lt _ (by omega)
     exact gcd_two k (by omega) h2 hb
theorem tgcd_val {a b : Int} (ha : a.natAbs ≤ 9223372036854775806) (hb : b.natAbs ≤ 9223372036854775806) : zBF a b = some (Int.gcd a b : Int) := by
 obtain ⟨r, h1, h2, h3⟩ := tgcd_run 64 FU (a.natAbs : Int) (b.natAbs : Int) (by omega) (by omega) (by omega) (FU_succ 129 (by decide))
 rw [zH5] at h2
 simp only [zBF, zID ha, zID hb, Option.bind_some, h1]
 congr 1
 omega
theorem zHz {a b c : Int} (ha : inN a = true) (hb : inN b = true) (hc : inN c = true) : zAH (a, b, c) = some (Int.gcd a (Int.gcd b c) : Int) := by
 rw [zAf] at ha hb hc
 have h := gcd_le (a := a) (b := b) (M := 1000000) (by omega) (by omega)
 simp only [zAH, tgcd_val (a := a) (b := b) (by omega) (by omega), Option.bind_some]
 rw [tgcd_val (by omega) (by omega), Option.bind_some]
 congr 2
 unfold Int.gcd
 simp [Nat.gcd_assoc]
theorem zF5 {l : List (Int × Int × Int)} (hl : l.length ≤ 1000000) (hb : ∀ f ∈ l, inN f.1 = true ∧ inN f.2.1 = true ∧ inN f.2.2 = true) : ∀ (fu k : Nat) (acc : List (Int × Int × Int)), k ≤ l.length → l.length - k < fu → acc.length ≤ k →
  zAG l fu (k : Int) acc = some (acc ++ (l.drop k).filter fun f => eqI (Int.gcd f.1 (Int.gcd f.2.1 f.2.2) : Int) 1)
 | 0, k, acc, h0, h1, h2 => by omega
 | fu + 1, k, acc, h0, h1, h2 => by
  rw [zAG]
  rw [jN]
  by_cases hk : k < l.length
  ·obtain ⟨c1, c2, c3⟩ := hb (l[k]) (List.getElem_mem hk)
   have hcon : zAH l[k] = some (Int.gcd l[k].1 (Int.gcd l[k].2.1 l[k].2.2) : Int) := zHz c1 c2 c3
   rw [decide_eq_true (by omega), cond_true, zEv hk, List.drop_eq_getElem_cons hk, List.filter_cons]
   simp only [Option.bind_some, hcon, qM, zFn (show k < 1000000000 by omega)]
   cases eqI (Int.gcd l[k].1 (Int.gcd l[k].2.1 l[k].2.2) : Int) 1 with
   | true =>
    rw [cond_true, zIr (by simp; omega), if_pos rfl]
    simp only [Option.bind_some]
    rw [zF5 hl hb fu (k + 1) _ (by omega) (by omega) (by simp; omega)]
    simp
   | false =>
    rw [cond_false, if_neg (by simp)]
    exact zF5 hl hb fu (k + 1) acc (by omega) (by omega) (by omega)
  ·rw [decide_eq_false (by omega), cond_false, List.drop_eq_nil_of_le (by omega)]
   simp
def PrR (d : Int) (f : Int × Int × Int) : Prop := 1 ≤ f.1 ∧ zBA f.1 f.2.1 f.2.2 ∧ f.2.1 * f.2.1 - 4 * f.1 * f.2.2 = d ∧ Int.gcd f.1 (Int.gcd f.2.1 f.2.2) = 1
theorem red_sq {a b c d : Int} (ha : 1 ≤ a) (h : zBA a b c) (hd : b * b - 4 * a * c = d) : 3 * a * a ≤ -d := by
 have h1 : b * b ≤ a * a := by
  obtain ⟨⟨h2, h3⟩, _⟩ := h
  rcases Int.le_total 0 b with h4 | h4
  ·exact zF1 h4 h3
  ·have := zF1 (a := -b) (b := a) (by omega) (by omega)
   have e : (-b) * (-b) = b * b := by grind
   omega
 have h5 : a ≤ c := by
  obtain ⟨_, h6⟩ := h
  omega
 have h7 : 4 * a * a ≤ 4 * a * c := Int.mul_le_mul_of_nonneg_left h5 (by omega)
 have e : 4 * a * a = 4 * (a * a) := by grind
 have e2 : 3 * a * a = 3 * (a * a) := by grind
 omega
theorem zJ3 {d : Int} {f : Int × Int × Int} (hd1 : -2000 ≤ d) (hd2 : d ≤ -3) : (1 ≤ f.1 ∧ 3 * f.1 * f.1 ≤ -d ∧ f ∈ rowR d f.1 (2 * f.1).toNat (1 - f.1)) ↔ (1 ≤ f.1 ∧ zBA f.1 f.2.1 f.2.2 ∧ f.2.1 * f.2.1 - 4 * f.1 * f.2.2 = d) := by
 obtain ⟨a, b, c⟩ := f
 unfold rowR
 rw [List.mem_filter, List.mem_map]
 constructor
 ·rintro ⟨h1, h2, ⟨b', h3, h4⟩, h5⟩
  unfold okR at h5
  rw [Bool.and_eq_true, decide_eq_true_eq, zDO, beq_iff_eq] at h5
  exact ⟨h1, h5.2, h5.1⟩
 ·rintro ⟨h1, h2, h3⟩
  have h1' : 1 ≤ a := h1
  have h2' : zBA a b c := h2
  have h3' : b * b - 4 * a * c = d := h3
  refine ⟨h1, red_sq h1' h2' h3', ⟨b, (mem_upz _ _ _).2 ⟨?_, ?_⟩, ?_⟩, ?_⟩
  ·obtain ⟨⟨h4, h5⟩, _⟩ := h2'
   show 1 - a ≤ b
   omega
  ·obtain ⟨⟨h4, h5⟩, _⟩ := h2'
   show b < 1 - a + ((2 * a).toNat : Int)
   omega
  ·unfold cfR
   have e : b * b - d = 4 * a * c := by omega
   show (a, b, Int.tdiv (b * b - d) (4 * a)) = (a, b, c)
   rw [e, Int.mul_tdiv_cancel_left _ (by omega)]
  ·unfold okR
   rw [Bool.and_eq_true, decide_eq_true_eq, zDO, beq_iff_eq]
   exact ⟨h3, h2⟩
theorem zGG {d : Int} (hd1 : -2000 ≤ d) (hd2 : d ≤ -3) : ∃ L, zAA d = some L ∧ L.length ≤ 27000 ∧ (∀ f, f ∈ L ↔ PrR d f) ∧ L.Nodup := by
 have hF := FUge
 obtain ⟨L, k1, k2, k3, asq, k4, k5, k6⟩ := zIf hd1 hd2 26 FU 1 [] (by omega) (by omega) (by omega) (by simp)
 rw [List.nil_append] at k1
 have hLl : L.length ≤ 27000 := by omega
 have hmem : ∀ f ∈ L, 1 ≤ f.1 ∧ zBA f.1 f.2.1 f.2.2 ∧ f.2.1 * f.2.1 - 4 * f.1 * f.2.2 = d := fun f hf => (zJ3 hd1 hd2).1 ((k3 f).1 hf)
 have hbd : ∀ f ∈ L, inN f.1 = true ∧ inN f.2.1 = true ∧ inN f.2.2 = true := by
  intro f hf
  obtain ⟨h1, h2, h3⟩ := hmem f hf
  have h4 := red_sq h1 h2 h3
  obtain ⟨⟨h5, h6⟩, h7⟩ := h2
  have ha : f.1 ≤ 26 := by
   rcases Int.lt_or_le 26 f.1 with h8 | h8
   ·have := zF1 (a := 27) (b := f.1) (by omega) (by omega)
    have e : 3 * f.1 * f.1 = 3 * (f.1 * f.1) := by grind
    omega
   ·exact h8
  have hb := qG (x := f.2.1) (y := f.2.1) (A := 26) (B := 26) (by omega) (by omega)
  have hc : f.2.2 ≤ 1000 := by
   have h9 : 4 * 1 * f.2.2 ≤ 4 * f.1 * f.2.2 := by
    have : 4 * 1 * f.2.2 ≤ (4 * f.1) * f.2.2 := Int.mul_le_mul_of_nonneg_right (by omega) (by omega)
    exact this
   omega
  rw [zAf, zAf, zAf]
  omega
 have h2 := zF5 (l := L) (by omega) hbd FU 0 [] (by omega) (by omega) (by simp)
 rw [List.nil_append, List.drop_zero] at h2
 refine ⟨_, by simp only [zAA, zDf, k1, Option.bind_some]; exact congrArg (fun z => z.bind fun o => some o) h2, Nat.le_trans (List.length_filter_le _ _) hLl, fun f => ?_, ?_⟩
 ·rw [List.mem_filter, k3, zJ3 hd1 hd2, zDO, beq_iff_eq]
  unfold PrR
  constructor
  ·rintro ⟨⟨a1, a2, a3⟩, a4⟩
   exact ⟨a1, a2, a3, by omega⟩
  ·rintro ⟨a1, a2, a3, a4⟩
   exact ⟨⟨a1, a2, a3⟩, by omega⟩
 ·refine List.Pairwise.filter _ ?_
  rw [k6]
  have hrow : ∀ a : Int, (rowR d a (2 * a).toNat (1 - a)).Nodup := by
   intro a
   unfold rowR
   refine List.Pairwise.filter _ ?_
   rw [List.pairwise_map]
   refine (upz_lt (2 * a).toNat (1 - a)).imp ?_
   intro x y hxy e
   have := congrArg (fun f : Int × Int × Int => f.2.1) e
   simp only [cfR] at this
   omega
  rw [List.pairwise_flatMap]
  refine ⟨fun a _ => hrow a, k4.imp ?_⟩
  intro x y hxy f hf g hg e
  have fx := zGn hf
  have gy := zGn hg
  rw [e] at fx
  omega
theorem prin_red {d : Int} (hd1 : -2000 ≤ d) (hd2 : d ≤ -3) (h4 : d % 4 ≤ 1) : PrR d (1, d % 2, (d % 2 - d) / 4) := by
 have e : (d % 2) * (d % 2) = d % 2 := by
  rcases (by omega : d % 2 = 0 ∨ d % 2 = 1) with h | h <;> rw [h] <;> rfl
 refine ⟨Int.le_refl 1, ⟨⟨?_, ?_⟩, ?_⟩, ?_, ?_⟩
 ·show -1 < d % 2; omega
 ·show d % 2 ≤ 1; omega
 ·show 1 < (d % 2 - d) / 4 ∨ (1 = (d % 2 - d) / 4 ∧ 0 ≤ d % 2)
  omega
 ·show d % 2 * (d % 2) - 4 * 1 * ((d % 2 - d) / 4) = d
  rw [e]
  omega
 ·simp
theorem zEL (x : Int) : 0 ≤ x * x := by
 rcases Int.le_total 0 x with h | h
 ·exact Int.mul_nonneg h h
 ·exact Int.mul_nonneg_of_nonpos_of_nonpos h h
theorem abs_of_sq {x : Int} {M N : Nat} (h : x * x ≤ (N : Int)) (hM : N < (M + 1) * (M + 1)) : x.natAbs ≤ M := by
 rcases Nat.lt_or_ge M x.natAbs with h1 | h1
 ·have h2 : (M + 1) * (M + 1) ≤ x.natAbs * x.natAbs := Nat.mul_le_mul h1 h1
  have h3 : x * x = ((x.natAbs * x.natAbs : Nat) : Int) := Int.natAbs_mul_self.symm
  omega
 ·exact h1
theorem quad_id {A B C d x y v : Int} (hd : B * B - 4 * A * C = d) (hv : A * x * x + B * x * y + C * y * y = v) : (-d) * (x * x) + (2 * C * y + B * x) * (2 * C * y + B * x) = 4 * C * v := by
 subst hd hv
 grind
theorem ent_le {A B C d x y v : Int} (hd : B * B - 4 * A * C = d) (hv : A * x * x + B * x * y + C * y * y = v) : (-d) * (x * x) ≤ 4 * C * v := by
 have h1 := quad_id hd hv
 have h2 := zEL (2 * C * y + B * x)
 omega
theorem ent_bd {A B C d x y v : Int} (hd : B * B - 4 * A * C = d) (hneg : d < 0) (hC1 : 1 ≤ C) (hC : C ≤ 1000000) (hv : A * x * x + B * x * y + C * y * y = v) (hv2 : v ≤ 1250000) : x.natAbs ≤ 2300000 := by
 have h1 := ent_le hd hv
 have h2 : 1 * (x * x) ≤ (-d) * (x * x) := Int.mul_le_mul_of_nonneg_right (by omega) (zEL x)
 have h3 : 4 * C * v ≤ 4 * C * 1250000 := Int.mul_le_mul_of_nonneg_left hv2 (by omega)
 exact abs_of_sq (N := 5000000000000) (by omega) (by decide)
structure MatInv (A B C p q r s a b c : Int) : Prop where
  e1 : A * p * p + B * p * r + C * r * r = a
  e2 : 2 * A * p * q + B * (p * s + q * r) + 2 * C * r * s = b
  e3 : A * q * q + B * q * s + C * s * s = c
  dt : p * s - q * r = 1
theorem MatInv.swap {A B C p q r s a b c : Int} (h : MatInv A B C p q r s a b c) : MatInv A B C q (-p) s (-r) c (-b) a := by
 obtain ⟨e1, e2, e3, dt⟩ := h
 exact ⟨e3, by grind, by grind, by grind⟩
theorem MatInv.norm {A B C p q r s a b c : Int} (t : Int) (h : MatInv A B C p q r s a b c) : MatInv A B C p (p * t + q) r (r * t + s) a (2 * a * t + b) (a * t * t + b * t + c) := by
 obtain ⟨e1, e2, e3, dt⟩ := h
 exact ⟨e1, by grind, by grind, by grind⟩
theorem step_cases {a b c d g : Int} (h : RedInv a b c d g) (hr : ¬ zBA a b c) : qW (a, b, c) = some (0, -1, 1, 0) ∨ ∃ t, -1000001 ≤ t ∧ t ≤ 1000000 ∧ qW (a, b, c) = some (1, t, 0, 1) := by
 obtain ⟨a1, aM, b1, b2, c1, cM, dis, neg, nrm, con⟩ := h
 have hn : qL (a, b, c) = some (decide (-a < b ∧ b ≤ a)) := by
  simp only [qL, Option.bind_some, jN, zAN]
  rw [zW (by omega)]
  by_cases h1 : -a < b <;> by_cases h2 : b ≤ a <;> simp [h1, h2]
  all_goals omega
 by_cases hN : -a < b ∧ b ≤ a
 ·left
  simp only [qW, zFg a1 aM, hn, Option.bind_some, decide_eq_false hr, decide_eq_true hN]
  rfl
 ·right
  have hf := zEn (a := a - b) (m := 2 * a) (by omega) (by omega) (by omega) (by omega)
  have e1 := Int.emod_nonneg (a - b) (b := 2 * a) (by omega)
  have e2 := Int.emod_lt_of_pos (a - b) (b := 2 * a) (by omega)
  have e3 := Int.emod_add_mul_ediv (a - b) (2 * a)
  generalize hs : (a - b) / (2 * a) = s at *
  generalize hq : (a - b) % (2 * a) = q at *
  have hs1 : s ≤ 1000000 := by
   rcases Int.lt_or_le 1000000 s with h | h
   ·have : 2 * a * 1000001 ≤ 2 * a * s := Int.mul_le_mul_of_nonneg_left (by omega) (by omega)
    omega
   ·exact h
  have hs2 : -1000001 ≤ s := by
   rcases Int.lt_or_le s (-1000001) with h | h
   ·have : 2 * a * s ≤ 2 * a * (-1000002) := Int.mul_le_mul_of_nonneg_left (by omega) (by omega)
    omega
   ·exact h
  refine ⟨s, hs2, hs1, ?_⟩
  simp only [qW, zFg a1 aM, hn, Option.bind_some, decide_eq_false hr, decide_eq_false hN, cond_false, Bool.not_false, cond_true]
  rw [zW (n := a - b) (by omega), zW (n := 2 * a) (by omega), hf]
  rfl
theorem times_swap {p q r s : Int} (hp : p.natAbs ≤ 2300000) (hq : q.natAbs ≤ 2300000) (hr : r.natAbs ≤ 2300000) (hs : s.natAbs ≤ 2300000) : qB (p, q, r, s) (0, -1, 1, 0) = some (q, -p, s, -r) := by
 simp only [qB, qM, Int.mul_zero, Int.mul_one]
 have e : ∀ x : Int, x * -1 = -x := fun x => by omega
 rw [e p, e r, zW (n := 0) (by omega), zW (n := q) (by omega), zW (n := -p) (by omega), zW (n := s) (by omega), zW (n := -r) (by omega), zW (n := 0 + q) (by omega), zW (n := -p + 0) (by omega), zW (n := 0 + s) (by omega), zW (n := -r + 0) (by omega)]
 simp
theorem times_norm {p q r s t : Int} (hp : p.natAbs ≤ 2300000) (hq : q.natAbs ≤ 2300000) (hr : r.natAbs ≤ 2300000) (hs : s.natAbs ≤ 2300000) (ht : t.natAbs ≤ 1000001) : qB (p, q, r, s) (1, t, 0, 1) = some (p, p * t + q, r, r * t + s) := by
 have m1 := qG hp ht
 have m2 := qG hr ht
 simp only [qB, qM, Int.mul_zero, Int.mul_one]
 rw [zW (n := 0) (by omega), zW (n := q) (by omega), zW (n := p) (by omega), zW (n := s) (by omega), zW (n := r) (by omega), zW (n := p * t) (by omega), zW (n := r * t) (by omega), zW (n := p + 0) (by omega), zW (n := p * t + q) (by omega), zW (n := r + 0) (by omega), zW (n := r * t + s) (by omega)]
 simp
theorem mat_run {A B C : Int} (hA1 : 1 ≤ A) (hA : A ≤ 1000000) (hC1 : 1 ≤ C) (hC : C ≤ 1000000) : ∀ (n : Nat) (a b c d g p q r s : Int), B * B - 4 * A * C = d → RedInv a b c d g → MatInv A B C p q r s a b c → 4 * a + (if -a < b ∧ b ≤ a then 0 else 2) + (if zBA a b c then 0 else 1) ≤ (n : Int) →
  ∃ m1 m2 m3 m4 a2 b2 c2, zAQ n p q r s a b c = some (m1, m2, m3, m4, a2, b2, c2) ∧ RedInv a2 b2 c2 d g ∧ zBA a2 b2 c2 ∧ MatInv A B C m1 m2 m3 m4 a2 b2 c2
 | 0, a, b, c, d, g, p, q, r, s, hd, h, hv, hm => by
  have := h.a1
  split at hm <;> split at hm <;> omega
 | n + 1, a, b, c, d, g, p, q, r, s, hd, h, hv, hm => by
  unfold zAQ
  rw [zFg h.a1 h.aM]
  by_cases hr : zBA a b c
  ·refine ⟨p, q, r, s, a, b, c, ?_, h, hr, hv⟩
   simp [hr]
  ·obtain ⟨m, a2, b2, c2, h1, h2, h3, h4⟩ := red_step h hr
   have hdS : B * B - 4 * C * A = d := by rw [← hd]; grind
   have bp := ent_bd hd h.neg hC1 hC hv.e1 (by have := h.aM; omega)
   have bq := ent_bd hd h.neg hC1 hC hv.e3 h.cM
   have br := ent_bd (A := C) (C := A) (x := r) (y := p) hdS h.neg hA1 hA (v := a) (by have := hv.e1; grind) (by have := h.aM; omega)
   have bs := ent_bd (A := C) (C := A) (x := s) (y := q) hdS h.neg hA1 hA (v := c) (by have := hv.e3; grind) h.cM
   have e1 : (!decide (zBA a b c)) = true := by simp [hr]
   have hmeas : 4 * a2 + (if -a2 < b2 ∧ b2 ≤ a2 then 0 else 2) + (if zBA a2 b2 c2 then 0 else 1) ≤ (n : Int) := by
    rcases h4 with ⟨g1, g2, g3⟩ | ⟨g1, g2⟩ | ⟨g1, g2, g3⟩
    ·rw [if_neg g1, if_neg hr] at hm
     rw [if_pos g3]
     split <;> omega
    ·rw [if_pos g1, if_neg hr] at hm
     split <;> split <;> omega
    ·rw [if_pos g1, if_neg hr] at hm
     rw [if_pos g2.1, if_pos g2]
     omega
   have ha := h.a1
   have hb1 := h.b1
   have hb2 := h.b2
   have haM := h.aM
   have hc1 := h.c1
   have hcM := h.cM
   rcases step_cases h hr with hs | ⟨t, t1, t2, hs⟩
   ·rw [hs] at h1
    have hm0 := zB h1
    subst hm0
    have hsub := zI0 (a := a) (b := b) (c := c) (by omega) (by omega) (by omega)
    rw [hsub] at h2
    obtain ⟨ea, hbc⟩ := Prod.mk.inj (zB h2)
    obtain ⟨eb, ec⟩ := Prod.mk.inj hbc
    rw [← ea, ← eb, ← ec] at h3 hmeas
    simp only [Option.bind_some, hs, hsub, times_swap bp bq br bs, e1, cond_true]
    exact mat_run hA1 hA hC1 hC n _ _ _ d g _ _ _ _ hd h3 hv.swap hmeas
   ·rw [hs] at h1
    have hm0 := zB h1
    subst hm0
    have hsub := zGL (a := a) (b := b) (c := c) (s := t) (by omega) (by omega) (by omega) (by omega)
    rw [hsub] at h2
    obtain ⟨ea, hbc⟩ := Prod.mk.inj (zB h2)
    obtain ⟨eb, ec⟩ := Prod.mk.inj hbc
    rw [← ea, ← eb, ← ec] at h3 hmeas
    simp only [Option.bind_some, hs, hsub, times_norm bp bq br bs (t := t) (by omega), e1, cond_true]
    exact mat_run hA1 hA hC1 hC n _ _ _ d g _ _ _ _ hd h3 (hv.norm t) hmeas
theorem zHK {A B C d x y v a b c : Int} (hd : B * B - 4 * A * C = d) (hC1 : 1 ≤ C) (hC : C ≤ 1000000) (hdis : b * b - 4 * a * c = d) (hred : zBA a b c) (ha : 1 ≤ a) (hv : A * x * x + B * x * y + C * y * y = v) (hv2 : v = a ∨ v = c) : x.natAbs ≤ 2000 := by
 have h1 := ent_le hd hv
 obtain ⟨⟨b1, b2⟩, hr⟩ := hred
 have hac : a ≤ c := by omega
 have hbb : b * b ≤ a * a := by
  have := qG (x := b) (y := b) (A := a.natAbs) (B := a.natAbs) (by omega) (by omega)
  have h2 : (b * b).natAbs ≤ (a * a).natAbs := by rw [Int.natAbs_mul a a]; exact this
  have h3 := zEL a
  have h4 := zEL b
  omega
 have haa : a * a ≤ a * c := Int.mul_le_mul_of_nonneg_left hac (by omega)
 have hD : 3 * (a * c) ≤ -d := by
  have : 4 * a * c = 4 * (a * c) := by rw [Int.mul_assoc]
  omega
 have hxx := zEL x
 have h5 : 3 * (a * c) * (x * x) ≤ (-d) * (x * x) := Int.mul_le_mul_of_nonneg_right hD hxx
 have h6 : 4 * C * v ≤ 4000000 * v := Int.mul_le_mul_of_nonneg_right (by omega) (by omega)
 have h7 : 3 * (a * c) * (x * x) ≤ 4000000 * v := by omega
 -- divide by v
 have h8 : 3 * (x * x) ≤ 4000000 := by
  rcases Int.lt_or_le 4000000 (3 * (x * x)) with h | h
  ·exfalso
   rcases hv2 with rfl | rfl
   ·have h9 : v * (3 * (x * x)) ≤ v * (3 * (c * (x * x))) := Int.mul_le_mul_of_nonneg_left (by
     have : 1 * (x * x) ≤ c * (x * x) := Int.mul_le_mul_of_nonneg_right (by omega) hxx
     omega) (by omega)
    have h10 : v * (3 * (c * (x * x))) = 3 * (v * c) * (x * x) := by grind
    have h11 : v * 4000001 ≤ v * (3 * (x * x)) := Int.mul_le_mul_of_nonneg_left (by omega) (by omega)
    omega
   ·have h9 : v * (3 * (x * x)) ≤ v * (3 * (a * (x * x))) := Int.mul_le_mul_of_nonneg_left (by
     have : 1 * (x * x) ≤ a * (x * x) := Int.mul_le_mul_of_nonneg_right (by omega) hxx
     omega) (by omega)
    have h10 : v * (3 * (a * (x * x))) = 3 * (a * v) * (x * x) := by grind
    have h11 : v * 4000001 ≤ v * (3 * (x * x)) := Int.mul_le_mul_of_nonneg_left (by omega) (by omega)
    omega
  ·exact h
 exact abs_of_sq (N := 1333334) (by omega) (by decide)
theorem red_full {a b c g : Int} (hi : RedInv a b c (b * b - 4 * a * c) g) (hcM : c ≤ 1000000) : ∃ m1 m2 m3 m4 a2 b2 c2, jI (a, b, c) = some ((a2, b2, c2), (m1, m2, m3, m4)) ∧ jY (a, b, c) = some ((a2, b2, c2), (m1, m2, m3, m4)) ∧ RedInv a2 b2 c2 (b * b - 4 * a * c) g ∧ zBA a2 b2 c2 ∧ MatInv a b c m1 m2 m3 m4 a2 b2 c2 ∧ m1.natAbs ≤ 2000 ∧ m2.natAbs ≤ 2000 ∧ m3.natAbs ≤ 2000 ∧ m4.natAbs ≤ 2000 := by
 obtain ⟨m, a2, b2, c2, k1, k2, k3, k4⟩ := red_both hi
 obtain ⟨m1, m2, m3, m4, a3, b3, c3, q1, q2, q3, q4⟩ := mat_run (B := b) hi.a1 hi.aM hi.c1 hcM FU a b c _ g 1 0 0 1 rfl hi ⟨by grind, by grind, by grind, by decide⟩ (by
  have e : ((FU : Nat) : Int) = 1000000000 := rfl
  rw [e]
  have := hi.aM
  split <;> split <;> omega)
 have k1' : jI (a, b, c) = some ((a3, b3, c3), (m1, m2, m3, m4)) := by
  simp only [jI, zCv, Option.bind_some, q1]
 rw [k1] at k1'
 have e := zB k1'
 obtain ⟨e1, rfl⟩ := Prod.mk.inj e
 obtain ⟨rfl, e2⟩ := Prod.mk.inj e1
 obtain ⟨rfl, rfl⟩ := Prod.mk.inj e2
 have hdS : b * b - 4 * c * a = b * b - 4 * a * c := by grind
 have s1 := zHK (A := a) (B := b) (C := c) (x := m1) (y := m3) rfl hi.c1 hcM q2.dis q3 q2.a1 q4.e1 (.inl rfl)
 have s2 := zHK (A := a) (B := b) (C := c) (x := m2) (y := m4) rfl hi.c1 hcM q2.dis q3 q2.a1 q4.e3 (.inr rfl)
 have s3 := zHK (A := c) (B := b) (C := a) (x := m3) (y := m1) (v := a2) hdS hi.a1 hi.aM q2.dis q3 q2.a1 (by have := q4.e1; grind) (.inl rfl)
 have s4 := zHK (A := c) (B := b) (C := a) (x := m4) (y := m2) (v := c2) hdS hi.a1 hi.aM q2.dis q3 q2.a1 (by have := q4.e3; grind) (.inr rfl)
 exact ⟨m1, m2, m3, m4, a2, b2, c2, k1, k2, q2, q3, q4, s1, s2, s3, s4⟩
def bv (x : Int) : BitVec 64 := BitVec.ofInt 64 x
theorem w64_bv (x : Int) : w64 x = (bv x).toInt := by
 rw [zH7, bv, BitVec.toInt_ofInt, IntKind.wrap_i64, Int.bmod_def]
 omega
theorem zFm (x : Int) : bv (w64 x) = bv x := by
 rw [w64_bv]
 unfold bv
 rw [BitVec.ofInt_toInt]
theorem zDF {x y : Int} (h : bv x = bv y) : w64 x = w64 y := by rw [w64_bv, w64_bv, h]
theorem zHx (x y : Int) : bv (x + y) = bv x + bv y := BitVec.ofInt_add x y
theorem zHw (x y : Int) : bv (x * y) = bv x * bv y := BitVec.ofInt_mul x y
theorem bv_sub (x y : Int) : bv (x - y) = bv x - bv y := by
 rw [Int.sub_eq_add_neg, zHx]
 unfold bv
 rw [BitVec.ofInt_neg, BitVec.sub_eq_add_neg]
theorem wml (x y : Int) : w64 (w64 x * y) = w64 (x * y) := zDF (by rw [zHw, zHw, zFm])
theorem wmr (x y : Int) : w64 (x * w64 y) = w64 (x * y) := zDF (by rw [zHw, zHw, zFm])
theorem wal (x y : Int) : w64 (w64 x + y) = w64 (x + y) := zDF (by rw [zHx, zHx, zFm])
theorem war (x y : Int) : w64 (x + w64 y) = w64 (x + y) := zDF (by rw [zHx, zHx, zFm])
theorem wsl (x y : Int) : w64 (w64 x - y) = w64 (x - y) := zDF (by rw [bv_sub, bv_sub, zFm])
theorem wsr (x y : Int) : w64 (x - w64 y) = w64 (x - y) := zDF (by rw [bv_sub, bv_sub, zFm])
theorem at_w (a b c x y : Int) : zAl (a, b, c) x y = some (w64 (a * x * x + b * x * y + c * y * y)) := by
 simp only [zAl, qM, wml, wmr, wal, war, wsl, wsr]
theorem polar_w (a b c x y u v : Int) : zAe (a, b, c) x y u v = some (w64 (2 * a * x * u + b * (x * v + y * u) + 2 * c * y * v)) := by
 simp only [zAe, qM, wml, wmr, wal, war, wsl, wsr]
theorem sub_w (a b c p q r s : Int) : zQ (a, b, c) (p, q, r, s) = some (w64 (a * p * p + b * p * r + c * r * r), w64 (2 * a * p * q + b * (p * s + r * q) + 2 * c * r * s), w64 (a * q * q + b * q * s + c * s * s)) := by
 simp only [zQ, at_w, polar_w, Option.bind_some]
theorem zJ1 (p q r s p' q' r' s' : Int) : qB (p, q, r, s) (p', q', r', s') = some (w64 (p * p' + q * r'), w64 (p * q' + q * s'), w64 (r * p' + s * r'), w64 (r * q' + s * s')) := by
 simp only [qB, qM, wml, wmr, wal, war, wsl, wsr]
theorem disc_w (a b c : Int) : zY (a, b, c) = some (w64 (b * b - 4 * a * c)) := by
 simp only [zY, qM, wml, wmr, wal, war, wsl, wsr]
end Go.Proofs.YtnheekadeflecaaGreat
namespace Go.Proofs.YtnheekadeflecaaGreat
def ptG (a A B C x y : Nat) : Bool := Nat.beq (Nat.gcd (Nat.add (Nat.add (Nat.mul A (Nat.mul x x)) (Nat.mul B (Nat.mul x y))) (Nat.mul C (Nat.mul y y))) a) 1
def ptA (a A B C : Nat) : Bool := bif ptG a A B C 0 1 then true else bif ptG a A B C 1 0 then true else bif ptG a A B C 1 1 then true else bif ptG a A B C 1 2 then true else bif ptG a A B C 2 1 then true else bif ptG a A B C 1 3 then true else bif ptG a A B C 2 3 then true else bif ptG a A B C 3 1 then true else ptG a A B C 3 2
def ptC (a A B : Nat) : Nat → Bool
 | 0 => true
 | k + 1 => bif (bif Nat.beq (Nat.gcd (Nat.gcd A B) (Nat.gcd k a)) 1 then ptA a A B k else true) then ptC a A B k else false
def ptB (a A : Nat) : Nat → Bool
 | 0 => true
 | k + 1 => bif ptC a A k a then ptB a A k else false
def ptD (a : Nat) : Nat → Bool
 | 0 => true
 | k + 1 => bif ptB a k a then ptD a k else false
def ptE : Nat → Bool
 | 0 => true
 | k + 1 => bif ptD (Nat.succ k) (Nat.succ k) then ptE k else false
theorem ptE_ok : ptE 25 = true := by decide +kernel
theorem zJa {a b : Bool} (h : (bif a then b else false) = true) : a = true ∧ b = true := by cases a <;> simp_all
theorem ptC_all {a A B : Nat} : ∀ k, ptC a A B k = true → ∀ C, C < k → Nat.gcd (Nat.gcd A B) (Nat.gcd C a) = 1 → ptA a A B C = true
 | 0, _, C, hC, _ => by omega
 | k + 1, h, C, hC, hg => by
  obtain ⟨h1, h2⟩ := zJa h
  by_cases e : C = k
  ·subst e
   have : Nat.beq (Nat.gcd (Nat.gcd A B) (Nat.gcd C a)) 1 = true := by rw [Nat.beq_eq]; exact hg
   rw [this, cond_true] at h1
   exact h1
  ·exact ptC_all k h2 C (by omega) hg
theorem ptB_all {a A : Nat} : ∀ k, ptB a A k = true → ∀ B, B < k → ptC a A B a = true
 | 0, _, C, hC => by omega
 | k + 1, h, C, hC => by
  obtain ⟨h1, h2⟩ := zJa h
  by_cases e : C = k
  ·subst e; exact h1
  ·exact ptB_all k h2 C (by omega)
theorem ptD_all {a : Nat} : ∀ k, ptD a k = true → ∀ A, A < k → ptB a A a = true
 | 0, _, C, hC => by omega
 | k + 1, h, C, hC => by
  obtain ⟨h1, h2⟩ := zJa h
  by_cases e : C = k
  ·subst e; exact h1
  ·exact ptD_all k h2 C (by omega)
theorem ptE_all : ∀ k, ptE k = true → ∀ a, a < k → ptD (a + 1) (a + 1) = true
 | 0, _, C, hC => by omega
 | k + 1, h, C, hC => by
  obtain ⟨h1, h2⟩ := zJa h
  by_cases e : C = k
  ·subst e; exact h1
  ·exact ptE_all k h2 C (by omega)
theorem pt_nat {a A B C : Nat} (h1 : 1 ≤ a) (h2 : a ≤ 25) (hA : A < a) (hB : B < a) (hC : C < a) (hg : Nat.gcd (Nat.gcd A B) (Nat.gcd C a) = 1) : ptA a A B C = true := by
 have e := ptE_all 25 ptE_ok (a - 1) (by omega)
 rw [show a - 1 + 1 = a by omega] at e
 exact ptC_all a (ptB_all a (ptD_all a e A hA) B hB) C hC hg
def ptL : List (Int × Int) := [(0, 1), (1, 0), (1, 1), (1, 2), (2, 1), (1, 3), (2, 3), (3, 1), (3, 2)]
theorem gcd_of' {g x y : Int} (h : ∀ c : Int, c ∣ g → (c ∣ x ↔ c ∣ y)) : Int.gcd g x = Int.gcd g y := by
 refine Nat.dvd_antisymm ?_ ?_ <;> apply Int.natCast_dvd_natCast.1
 ·exact Int.dvd_coe_gcd (Int.gcd_dvd_left _ _) ((h _ (Int.gcd_dvd_left _ _)).1 (Int.gcd_dvd_right _ _))
 ·exact Int.dvd_coe_gcd (Int.gcd_dvd_left _ _) ((h _ (Int.gcd_dvd_left _ _)).2 (Int.gcd_dvd_right _ _))
theorem gcd_mod {v a : Int} {n : Nat} (ha : 1 ≤ a) (hn : a ∣ v - (n : Int)) : Int.gcd v a = Nat.gcd n a.toNat := by
 obtain ⟨k, hk⟩ := hn
 have e : v = (n : Int) + a * k := by omega
 rw [e, Int.gcd_comm, gcd_of' (y := (n : Int)) (fun c hc => by
  obtain ⟨j, hj⟩ := hc
  constructor
  ·rintro ⟨i, hi⟩; exact ⟨i - j * k, by rw [Int.mul_sub, ← Int.mul_assoc, ← hj]; omega⟩
  ·rintro ⟨i, hi⟩; exact ⟨i + j * k, by rw [Int.mul_add, ← Int.mul_assoc, ← hj]; omega⟩), Int.gcd_comm]
 unfold Int.gcd
 rw [Int.natAbs_natCast]
 congr 1
 omega
theorem zKI {x a : Int} (ha : 1 ≤ a) : a ∣ x - ((x % a).toNat : Int) ∧ (x % a).toNat < a.toNat := by
 have h1 := Int.emod_nonneg x (b := a) (by omega)
 have h2 := Int.emod_lt_of_pos x (b := a) (by omega)
 have h3 := Int.emod_add_mul_ediv x a
 exact ⟨⟨x / a, by omega⟩, by omega⟩
theorem pt_ex {a A B C : Int} (h1 : 1 ≤ a) (h2 : a ≤ 25) (hp : ∀ k : Int, k ∣ A → k ∣ B → k ∣ C → k ∣ 1) : ∃ p, p ∈ ptL ∧ Int.gcd (A * p.1 * p.1 + B * p.1 * p.2 + C * p.2 * p.2) a = 1 := by
 obtain ⟨a1, a2⟩ := zKI (x := A) h1
 obtain ⟨b1, b2⟩ := zKI (x := B) h1
 obtain ⟨c1, c2⟩ := zKI (x := C) h1
 generalize (A % a).toNat = A' at *
 generalize (B % a).toNat = B' at *
 generalize (C % a).toNat = C' at *
 have hg : Nat.gcd (Nat.gcd A' B') (Nat.gcd C' a.toNat) = 1 := by
  generalize hG : Nat.gcd (Nat.gcd A' B') (Nat.gcd C' a.toNat) = G
  have g1 : G ∣ A' := hG ▸ Nat.dvd_trans (Nat.gcd_dvd_left _ _) (Nat.gcd_dvd_left _ _)
  have g2 : G ∣ B' := hG ▸ Nat.dvd_trans (Nat.gcd_dvd_left _ _) (Nat.gcd_dvd_right _ _)
  have g3 : G ∣ C' := hG ▸ Nat.dvd_trans (Nat.gcd_dvd_right _ _) (Nat.gcd_dvd_left _ _)
  have g4 : G ∣ a.toNat := hG ▸ Nat.dvd_trans (Nat.gcd_dvd_right _ _) (Nat.gcd_dvd_right _ _)
  have g5 : (G : Int) ∣ a := by
   have : ((a.toNat : Nat) : Int) = a := by omega
   rw [← this]; exact Int.natCast_dvd_natCast.2 g4
  have up : ∀ {X : Int} {X' : Nat}, a ∣ X - (X' : Int) → G ∣ X' → (G : Int) ∣ X := by
   intro X X' u1 u2
   obtain ⟨i, hi⟩ := Int.dvd_trans g5 u1
   obtain ⟨j, hj⟩ := Int.natCast_dvd_natCast.2 u2
   exact ⟨i + j, by rw [Int.mul_add]; omega⟩
  have h := hp G (up a1 g1) (up b1 g2) (up c1 g3)
  have := Int.natCast_dvd_natCast.1 (show (G : Int) ∣ ((1 : Nat) : Int) from h)
  exact Nat.dvd_one.1 this
 have k := pt_nat (by omega) (by omega) a2 b2 c2 hg
 have fin : ∀ x y : Nat, ((x : Int), (y : Int)) ∈ ptL → ptG a.toNat A' B' C' x y = true → ∃ p, p ∈ ptL ∧ Int.gcd (A * p.1 * p.1 + B * p.1 * p.2 + C * p.2 * p.2) a = 1 := by
  intro x y hm hG
  refine ⟨_, hm, ?_⟩
  have e := Nat.eq_of_beq_eq_true hG
  rw [← e]
  refine gcd_mod h1 ?_
  obtain ⟨i, hi⟩ := a1
  obtain ⟨j, hj⟩ := b1
  obtain ⟨l, hl⟩ := c1
  refine ⟨i * (x * x) + j * (x * y) + l * (y * y), ?_⟩
  have eA : A = a * i + A' := by omega
  have eB : B = a * j + B' := by omega
  have eC : C = a * l + C' := by omega
  have e3 : ((((A'.mul (x.mul x)).add (B'.mul (x.mul y))).add (C'.mul (y.mul y)) : Nat) : Int) = A' * (x * x) + B' * (x * y) + C' * (y * y) := by
   simp only [Nat.add_eq, Nat.mul_eq, Int.natCast_add, Int.natCast_mul]
  rw [e3, eA, eB, eC]
  simp only []
  grind
 unfold ptA at k
 by_cases e1 : ptG a.toNat A' B' C' 0 1 = true; · exact fin 0 1 (by decide) e1
 by_cases e2 : ptG a.toNat A' B' C' 1 0 = true; · exact fin 1 0 (by decide) e2
 by_cases e3 : ptG a.toNat A' B' C' 1 1 = true; · exact fin 1 1 (by decide) e3
 by_cases e4 : ptG a.toNat A' B' C' 1 2 = true; · exact fin 1 2 (by decide) e4
 by_cases e5 : ptG a.toNat A' B' C' 2 1 = true; · exact fin 2 1 (by decide) e5
 by_cases e6 : ptG a.toNat A' B' C' 1 3 = true; · exact fin 1 3 (by decide) e6
 by_cases e7 : ptG a.toNat A' B' C' 2 3 = true; · exact fin 2 3 (by decide) e7
 by_cases e8 : ptG a.toNat A' B' C' 3 1 = true; · exact fin 3 1 (by decide) e8
 rw [Bool.not_eq_true] at e1 e2 e3 e4 e5 e6 e7 e8
 rw [e1, e2, e3, e4, e5, e6, e7, e8] at k
 simp only [cond_false] at k
 exact fin 3 2 (by decide) k
end Go.Proofs.YtnheekadeflecaaGreat
namespace Go.Proofs.YtnheekadeflecaaGreat
structure Rb (A B C : Int) : Prop where
  a1 : 1 ≤ A
  a2 : A ≤ 26
  b1 : -26 ≤ B
  b2 : B ≤ 26
  c1 : 1 ≤ C
  c2 : C ≤ 1000
def Vl (A B C x y : Int) : Int := A * x * x + B * x * y + C * y * y
def Gd (a A B C s x y : Int) : Prop := mxI x y = s ∧ Int.gcd x y = 1 ∧ Int.gcd (Vl A B C x y) a = 1
theorem mx_val (x y : Int) : mxI x y = max x y := by
 unfold mxI
 rw [jN]
 by_cases h : x < y
 ·rw [decide_eq_true h, cond_true]; omega
 ·rw [decide_eq_false h, cond_false]; omega
theorem most_eq (x y : Int) : zAk x y = some (mxI x y) := by
 unfold zAk mxI
 rw [jN, jN]
 by_cases h : x < y
 ·rw [decide_eq_true h, decide_eq_false (show ¬ y < x by omega)]; rfl
 ·rw [decide_eq_false h]
  by_cases h2 : y < x
  ·rw [decide_eq_true h2]; rfl
  ·rw [decide_eq_false h2, show x = y by omega]; rfl
theorem vl_bd {A B C x y : Int} (h : Rb A B C) (hx : 0 ≤ x) (hx2 : x ≤ 3) (hy : 0 ≤ y) (hy2 : y ≤ 3) : (Vl A B C x y).natAbs ≤ 10000 := by
 obtain ⟨a1, a2, b1, b2, c1, c2⟩ := h
 have m1 : (A * x * x).natAbs ≤ 26 * 3 * 3 := qG (qG (by omega) (by omega)) (by omega)
 have m2 : (B * x * y).natAbs ≤ 26 * 3 * 3 := qG (qG (by omega) (by omega)) (by omega)
 have m3 : (C * y * y).natAbs ≤ 1000 * 3 * 3 := qG (qG (by omega) (by omega)) (by omega)
 unfold Vl
 omega
theorem fp11 {a A B C s x : Int} (h : Rb A B C) (ha : 1 ≤ a) (ha2 : a ≤ 100) (hx : 0 ≤ x) (hxs : x ≤ s) (hs : s ≤ 3) : ∀ (n : Nat) (y : Int), 0 ≤ y → y ≤ s + 1 → (s + 1 - y).toNat < n →
  ∃ r, zAh a (A, B, C) s x n y = some r ∧ zB1 a (A, B, C) s x n y = some r ∧ (r = .inl () → ∀ y', y ≤ y' → y' ≤ s → ¬ Gd a A B C s x y') ∧ (∀ p, r = .inr p → p.1 = x ∧ 0 ≤ p.2 ∧ p.2 ≤ s ∧ Gd a A B C s x p.2)
 | 0, y, h0, h1, hn => by omega
 | n + 1, y, h0, h1, hn => by
  rw [zAh, zB1, zAN]
  by_cases hy : y ≤ s
  ·rw [decide_eq_true hy, cond_true, cond_true]
   have hb := vl_bd (x := x) (y := y) h hx (by omega) h0 (by omega)
   have hv : w64 (A * x * x + B * x * y + C * y * y) = Vl A B C x y := jQ (by unfold Vl at hb; omega)
   have e1 : zBH (A, B, C) x y = some (Vl A B C x y) := by rw [dsc_value, at_w, hv]
   rw [at_w, hv, e1, most_eq]
   simp only [Option.bind_some]
   rw [zJ7 (a := x) (b := y) (by omega) (by omega), zIC (a := x) (b := y) (by omega) (by omega), zJ7 (b := a) (by omega) (by omega), zIC (b := a) (by omega) (by omega)]
   simp only [Option.bind_some]
   by_cases hG : Gd a A B C s x y
   ·obtain ⟨g1, g2, g3⟩ := hG
    rw [g1, g2, g3, zCk]
    simp only [cond_true, Int.natCast_one, zCk, Option.bind_some]
    refine ⟨_, rfl, rfl, fun e => (by cases e), fun p e => ?_⟩
    cases e
    exact ⟨rfl, h0, hy, g1, g2, g3⟩
   ·have hc : ∀ {α : Type} (u v : Option α), ((bif eqI (mxI x y) s then some (eqI ((Int.gcd x y : Nat) : Int) 1) else some false).bind fun b16 => (bif b16 then some (eqI ((Int.gcd (Vl A B C x y) a : Nat) : Int) 1) else some false).bind fun b20 => bif b20 then u else v) = v := by
     intro α u v
     by_cases g1 : mxI x y = s
     ·rw [g1, zCk, cond_true, Option.bind_some]
      by_cases g2 : Int.gcd x y = 1
      ·rw [g2, show ((1 : Nat) : Int) = 1 from rfl, zCk, cond_true, Option.bind_some]
       have g3 : ¬ Int.gcd (Vl A B C x y) a = 1 := fun g3 => hG ⟨g1, g2, g3⟩
       rw [zDi (show ((Int.gcd (Vl A B C x y) a : Nat) : Int) ≠ 1 by omega), cond_false]
      ·rw [zDi (show ((Int.gcd x y : Nat) : Int) ≠ 1 by omega), cond_false, Option.bind_some, cond_false]
     ·rw [zDi g1, cond_false, Option.bind_some, cond_false, Option.bind_some, cond_false]
    rw [hc, hc]
    simp only [qM]
    rw [zW (n := y + 1) (by omega)]
    obtain ⟨r, k1, k2, k3, k4⟩ := fp11 h ha ha2 hx hxs hs n (y + 1) (by omega) (by omega) (by omega)
    refine ⟨r, k1, k2, fun e y' u1 u2 => ?_, k4⟩
    by_cases e2 : y' = y
    ·rw [e2]; exact hG
    ·exact k3 e y' (by omega) u2
  ·rw [decide_eq_false hy, cond_false, cond_false]
   refine ⟨_, rfl, rfl, fun _ y' u1 u2 => by omega, fun p e => by cases e⟩
theorem fp7 {a A B C s : Int} (h : Rb A B C) (ha : 1 ≤ a) (ha2 : a ≤ 100) (hs0 : 0 ≤ s) (hs : s ≤ 3) : ∀ (n : Nat) (x : Int), 0 ≤ x → x ≤ s + 1 → (s + 1 - x).toNat < n →
  ∃ r, zAu a (A, B, C) s n x = some r ∧ zBm a (A, B, C) s n x = some r ∧ (r = .inl () → ∀ x' y', x ≤ x' → x' ≤ s → 0 ≤ y' → y' ≤ s → ¬ Gd a A B C s x' y') ∧ (∀ p, r = .inr p → 0 ≤ p.1 ∧ p.1 ≤ s ∧ 0 ≤ p.2 ∧ p.2 ≤ s ∧ Gd a A B C s p.1 p.2)
 | 0, x, h0, h1, hn => by omega
 | n + 1, x, h0, h1, hn => by
  have hF := FUge
  rw [zAu, zBm, zAN]
  by_cases hx : x ≤ s
  ·rw [decide_eq_true hx, cond_true, cond_true]
   obtain ⟨r, k1, k2, k3, k4⟩ := fp11 h ha ha2 h0 hx hs FU 0 (by omega) (by omega) (by omega)
   rw [k1, k2]
   simp only [Option.bind_some]
   cases r with
   | inr p =>
    obtain ⟨q1, q2, q3, q4⟩ := k4 p rfl
    refine ⟨_, rfl, rfl, fun e => (by cases e), fun p' e => ?_⟩
    cases e
    rw [q1]
    exact ⟨h0, hx, q2, q3, q4⟩
   | inl u =>
    simp only [qM]
    rw [zW (n := x + 1) (by omega)]
    obtain ⟨r, j1, j2, j3, j4⟩ := fp7 h ha ha2 hs0 hs n (x + 1) (by omega) (by omega) (by omega)
    refine ⟨r, j1, j2, fun e x' y' u1 u2 u3 u4 => ?_, j4⟩
    by_cases e2 : x' = x
    ·rw [e2]; exact k3 rfl y' u3 u4
    ·exact j3 e x' y' (by omega) u2 u3 u4
  ·rw [decide_eq_false hx, cond_false, cond_false]
   refine ⟨_, rfl, rfl, fun _ x' y' u1 u2 => by omega, fun p e => by cases e⟩
theorem fp4 {a A B C : Int} (h : Rb A B C) (ha : 1 ≤ a) (ha2 : a ≤ 100) {t x0 y0 : Int} (ht : t ≤ 3) (hG : Gd a A B C t x0 y0) (hx0 : 0 ≤ x0) (hx1 : x0 ≤ t) (hy0 : 0 ≤ y0) (hy1 : y0 ≤ t) : ∀ (m n n' : Nat) (s : Int), 0 ≤ s → s ≤ t → (t - s).toNat ≤ m → m < n → m < n' →
  ∃ p, zAC a (A, B, C) n s = some (.inr p) ∧ zBn a (A, B, C) n' s = some (.inr p) ∧ ∃ s', s' ≤ 3 ∧ 0 ≤ p.1 ∧ p.1 ≤ s' ∧ 0 ≤ p.2 ∧ p.2 ≤ s' ∧ Gd a A B C s' p.1 p.2
 | m, 0, n', s, h0, h1, hm, hn, hn' => by omega
 | m, n + 1, 0, s, h0, h1, hm, hn, hn' => by omega
 | m, n + 1, n' + 1, s, h0, h1, hm, hn, hn' => by
  have hF := FUge
  rw [zAC, zBn, zAN, decide_eq_true (show s ≤ 100 by omega), cond_true]
  obtain ⟨r, k1, k2, k3, k4⟩ := fp7 h ha ha2 h0 (by omega) FU 0 (by omega) (by omega) (by omega)
  rw [k1, k2]
  simp only [Option.bind_some]
  cases r with
  | inr p =>
   obtain ⟨q1, q2, q3, q4, q5⟩ := k4 p rfl
   exact ⟨p, rfl, rfl, s, by omega, q1, q2, q3, q4, q5⟩
  | inl u =>
   have hne : s ≠ t := by
    intro e
    rw [e] at k3
    exact k3 rfl x0 y0 hx0 hx1 hy0 hy1 hG
   obtain ⟨m', rfl⟩ : ∃ m', m = m' + 1 := ⟨m - 1, by omega⟩
   simp only [qM]
   rw [zW (n := s + 1) (by omega)]
   exact fp4 h ha ha2 ht hG hx0 hx1 hy0 hy1 m' n n' (s + 1) (by omega) (by omega) (by omega) (by omega) (by omega)
theorem ptL_of {x y s : Int} (hs : s ≤ 3) (h1 : 0 ≤ x) (h2 : x ≤ s) (h3 : 0 ≤ y) (h4 : y ≤ s) (hg : Int.gcd x y = 1) : (x, y) ∈ ptL := by
 have e1 : x = 0 ∨ x = 1 ∨ x = 2 ∨ x = 3 := by omega
 have e2 : y = 0 ∨ y = 1 ∨ y = 2 ∨ y = 3 := by omega
 rcases e1 with rfl | rfl | rfl | rfl <;> rcases e2 with rfl | rfl | rfl | rfl <;> first | decide | (exfalso; revert hg; decide)
theorem point_both {a A B C : Int} (h : Rb A B C) (ha : 1 ≤ a) (ha2 : a ≤ 25) (hp : ∀ k : Int, k ∣ A → k ∣ B → k ∣ C → k ∣ 1) : ∃ p, zC1 (A, B, C) a = some p ∧ zD2 (A, B, C) a = some p ∧ p ∈ ptL ∧ Int.gcd (Vl A B C p.1 p.2) a = 1 := by
 have hF := FUge
 obtain ⟨⟨x, y⟩, hm, hg⟩ := pt_ex ha ha2 hp
 have hr : 0 ≤ x ∧ x ≤ 3 ∧ 0 ≤ y ∧ y ≤ 3 ∧ Int.gcd x y = 1 ∧ 1 ≤ max x y := by
  simp only [ptL, List.mem_cons, Prod.mk.injEq, List.not_mem_nil, or_false] at hm
  rcases hm with ⟨rfl, rfl⟩ | ⟨rfl, rfl⟩ | ⟨rfl, rfl⟩ | ⟨rfl, rfl⟩ | ⟨rfl, rfl⟩ | ⟨rfl, rfl⟩ | ⟨rfl, rfl⟩ | ⟨rfl, rfl⟩ | ⟨rfl, rfl⟩ <;> decide
 obtain ⟨r1, r2, r3, r4, r5, r6⟩ := hr
 have hG : Gd a A B C (max x y) x y := ⟨mx_val x y, r5, hg⟩
 obtain ⟨p, k1, k2, s', u1, u2, u3, u4, u5, u6⟩ := fp4 h ha (by omega) (show max x y ≤ 3 by omega) hG r1 (by omega) r3 (by omega) 3 (FU - 1) FU 1 (by omega) (by omega) (by omega) (by omega) (by omega)
 have z : zAC a (A, B, C) FU 0 = some (.inr p) := by
  obtain ⟨r, j1, j2, j3, j4⟩ := fp7 h ha (by omega) (s := 0) (by omega) (by omega) FU 0 (by omega) (by omega) (by omega)
  rw [show FU = (FU - 1) + 1 from rfl, zAC, j1, Option.bind_some]
  cases r with
  | inr q =>
   obtain ⟨w1, w2, w3, w4, w5, w6, w7⟩ := j4 q rfl
   have e1 : q.1 = 0 := by omega
   have e2 : q.2 = 0 := by omega
   rw [e1, e2] at w6
   exact absurd w6 (by decide)
  | inl u =>
   simp only [qM]
   rw [show w64 (0 + 1) = 1 from rfl]
   exact k1
 refine ⟨p, ?_, ?_, ptL_of u1 u2 u3 u4 u5 u6.2.1, u6.2.2⟩
 ·simp only [zC1, z, Option.bind_some]
 ·simp only [zD2, k2, Option.bind_some]
end Go.Proofs.YtnheekadeflecaaGreat
namespace Go.Proofs.YtnheekadeflecaaGreat
theorem tz {z g : Int} (hg : g ≠ 0) : eqI (Int.tmod z g) 0 = decide (g ∣ z) := by
 rw [zDO, Bool.eq_iff_iff, beq_iff_eq, decide_eq_true_iff]
 exact ⟨Int.dvd_of_tmod_eq_zero, Int.tmod_eq_zero_of_dvd⟩
theorem tdv {a b c : Int} (hb : b ≠ 0) (h : b * c = a) : Int.tdiv a b = c := by
 rw [← h, Int.mul_tdiv_cancel_left _ hb]
end Go.Proofs.YtnheekadeflecaaGreat
namespace Go.Proofs.YtnheekadeflecaaGreat
theorem inv9 {x y : Int} (h : (x, y) ∈ ptL) : ∃ q s : Int, (bif eqI y 0 then some (0, x) else (zCa y).bind fun y6 => (zD3 x y6).bind fun y7 => (nz y).bind fun z8 => sI (w64 (Int.tdiv (w64 ((w64 (x * y7)) - 1)) y)) fun f9 => some (f9, y7)) = some (q, s) ∧ zDC x y = some (1, s, -q) ∧ x * s - q * y = 1 ∧ q.natAbs ≤ 3 ∧ s.natAbs ≤ 3 ∧ 0 ≤ x ∧ x ≤ 3 ∧ 0 ≤ y ∧ y ≤ 3 := by
 simp only [ptL, List.mem_cons, Prod.mk.injEq, List.not_mem_nil, or_false] at h
 rcases h with ⟨rfl, rfl⟩ | ⟨rfl, rfl⟩ | ⟨rfl, rfl⟩ | ⟨rfl, rfl⟩ | ⟨rfl, rfl⟩ | ⟨rfl, rfl⟩ | ⟨rfl, rfl⟩ | ⟨rfl, rfl⟩ | ⟨rfl, rfl⟩
 ·exact ⟨-1, 0, by decide +kernel, by decide +kernel, by decide⟩
 ·exact ⟨0, 1, by decide +kernel, by decide +kernel, by decide⟩
 ·exact ⟨-1, 0, by decide +kernel, by decide +kernel, by decide⟩
 ·exact ⟨0, 1, by decide +kernel, by decide +kernel, by decide⟩
 ·exact ⟨-1, 0, by decide +kernel, by decide +kernel, by decide⟩
 ·exact ⟨0, 1, by decide +kernel, by decide +kernel, by decide⟩
 ·exact ⟨1, 2, by decide +kernel, by decide +kernel, by decide⟩
 ·exact ⟨-1, 0, by decide +kernel, by decide +kernel, by decide⟩
 ·exact ⟨1, 1, by decide +kernel, by decide +kernel, by decide⟩
structure Cmp (A B C D x y v q0 s0 B0 Q Bh C1 : Int) : Prop where
  hv : A * x * x + B * x * y + C * y * y = v
  v1 : 1 ≤ v
  v2 : v ≤ 10000
  hB0 : 2 * A * x * q0 + B * (x * s0 + y * q0) + 2 * C * y * s0 = B0
  b0 : B0.natAbs ≤ 20000
  hQ : B0 / (2 * v) = Q
  q : Q.natAbs ≤ 20001
  m6 : (-Q * x).natAbs ≤ 60003
  m7 : (-Q * y).natAbs ≤ 60003
  hBh : B0 % (2 * v) = Bh
  e1 : B0 + 2 * v * -Q = Bh
  t1 : 0 ≤ Bh
  t2 : Bh < 2 * v
  e2 : 2 * A * x * (q0 + -Q * x) + B * (x * (s0 + -Q * y) + y * (q0 + -Q * x)) + 2 * C * y * (s0 + -Q * y) = Bh
  hC1 : A * (q0 + -Q * x) * (q0 + -Q * x) + B * (q0 + -Q * x) * (s0 + -Q * y) + C * (s0 + -Q * y) * (s0 + -Q * y) = C1
  em : MatInv A B C x (q0 + -Q * x) y (s0 + -Q * y) v Bh C1
  dis : Bh * Bh - 4 * v * C1 = D
  bb : Bh * Bh ≤ 400000000
  c1 : C1.natAbs ≤ 20000
theorem cmp_e2 (A B C x y q0 s0 Q : Int) : 2 * A * x * (q0 + -Q * x) + B * (x * (s0 + -Q * y) + y * (q0 + -Q * x)) + 2 * C * y * (s0 + -Q * y) = (2 * A * x * q0 + B * (x * s0 + y * q0) + 2 * C * y * s0) + 2 * (A * x * x + B * x * y + C * y * y) * -Q := by grind
theorem cmp_dt (x s0 Q y q0 : Int) : x * (s0 + -Q * y) - (q0 + -Q * x) * y = x * s0 - q0 * y := by grind
theorem cmp_k2 (v : Int) : 4 * v * (v + 2001) = 2 * v * (2 * v) + 8004 * v := by grind
theorem cmp_dis {A B C p q r s a b c : Int} (h : MatInv A B C p q r s a b c) : b * b - 4 * a * c = B * B - 4 * A * C := by
 obtain ⟨f1, f2, f3, f4⟩ := h
 have : b * b - 4 * a * c = (B * B - 4 * A * C) * ((p * s - q * r) * (p * s - q * r)) := by
  rw [← f1, ← f2, ← f3]
  grind
 rw [this, f4]; omega
theorem cmp_b {A B C x y q0 s0 : Int} (h : Rb A B C) (i4 : q0.natAbs ≤ 3) (i5 : s0.natAbs ≤ 3) (i6 : 0 ≤ x) (i7 : x ≤ 3) (i8 : 0 ≤ y) (i9 : y ≤ 3) : (2 * A * x * q0 + B * (x * s0 + y * q0) + 2 * C * y * s0).natAbs ≤ 20000 := by
 obtain ⟨a1, a2, b1, b2, c1, c2⟩ := h
 have m1 : (2 * A * x * q0).natAbs ≤ 2 * 26 * 3 * 3 := qG (qG (qG (by omega) (by omega)) (by omega)) (by omega)
 have m2 : (x * s0).natAbs ≤ 3 * 3 := qG (by omega) (by omega)
 have m3 : (y * q0).natAbs ≤ 3 * 3 := qG (by omega) (by omega)
 have m4 : (B * (x * s0 + y * q0)).natAbs ≤ 26 * 18 := qG (by omega) (by omega)
 have m5 : (2 * C * y * s0).natAbs ≤ 2 * 1000 * 3 * 3 := qG (qG (qG (by omega) (by omega)) (by omega)) (by omega)
 omega
theorem cmp_q {v B0 : Int} (v1 : 1 ≤ v) (hB : B0.natAbs ≤ 20000) : (B0 / (2 * v)).natAbs ≤ 20001 ∧ B0 + 2 * v * -(B0 / (2 * v)) = B0 % (2 * v) ∧ 0 ≤ B0 % (2 * v) ∧ B0 % (2 * v) < 2 * v := by
 have t1 := Int.emod_nonneg B0 (b := 2 * v) (by omega)
 have t2 := Int.emod_lt_of_pos B0 (b := 2 * v) (by omega)
 have t3 := Int.emod_add_mul_ediv B0 (2 * v)
 generalize hQ : B0 / (2 * v) = Q at *
 refine ⟨?_, by rw [Int.mul_neg]; omega, t1, t2⟩
 rcases Int.lt_or_le 20001 Q with h | h
 ·have : 2 * v * 20002 ≤ 2 * v * Q := Int.mul_le_mul_of_nonneg_left (by omega) (by omega)
  omega
 ·rcases Int.lt_or_le Q (-20001) with h' | h'
  ·have : 2 * v * Q ≤ 2 * v * (-20002) := Int.mul_le_mul_of_nonneg_left (by omega) (by omega)
   omega
  ·omega
theorem cmp_c {v Bh C1 D : Int} (v1 : 1 ≤ v) (v2 : v ≤ 10000) (hD1 : -2000 ≤ D) (hD2 : D ≤ 0) (t1 : 0 ≤ Bh) (t2 : Bh < 2 * v) (hdis : Bh * Bh - 4 * v * C1 = D) : Bh * Bh ≤ 400000000 ∧ C1.natAbs ≤ 20000 := by
 have hBB : Bh * Bh ≤ 2 * v * (2 * v) := Int.mul_le_mul (by omega) (by omega) t1 (by omega)
 have hBB0 : 0 ≤ Bh * Bh := Int.mul_nonneg t1 t1
 have hBB4 : 2 * v * (2 * v) ≤ 20000 * 20000 := Int.mul_le_mul (by omega) (by omega) (by omega) (by omega)
 have hCu : C1 ≤ v + 2000 := by
  rcases Int.lt_or_le (v + 2000) C1 with h | h
  ·have k1 : 4 * v * (v + 2001) ≤ 4 * v * C1 := Int.mul_le_mul_of_nonneg_left (by omega) (by omega)
   have k2 := cmp_k2 v
   omega
  ·exact h
 have hCl : -2000 ≤ C1 := by
  rcases Int.lt_or_le C1 (-2000) with h | h
  ·have k1 : 4 * v * C1 ≤ 4 * v * (-2001) := Int.mul_le_mul_of_nonneg_left (by omega) (by omega)
   omega
  ·exact h
 omega
theorem cmp_mat {A B C x y v q0 s0 Q Bh : Int} (hv : A * x * x + B * x * y + C * y * y = v) (i3 : x * s0 - q0 * y = 1) (e2 : 2 * A * x * (q0 + -Q * x) + B * (x * (s0 + -Q * y) + y * (q0 + -Q * x)) + 2 * C * y * (s0 + -Q * y) = Bh) : MatInv A B C x (q0 + -Q * x) y (s0 + -Q * y) v Bh (A * (q0 + -Q * x) * (q0 + -Q * x) + B * (q0 + -Q * x) * (s0 + -Q * y) + C * (s0 + -Q * y) * (s0 + -Q * y)) := by
 refine ⟨hv, ?_, rfl, ?_⟩
 ·rw [← e2, Int.mul_comm (q0 + -Q * x) y]
 ·rw [cmp_dt x s0 Q y q0, i3]
theorem cmp_mk {A B C D x y v q0 s0 : Int} (h : Rb A B C) (hD : B * B - 4 * A * C = D) (hD1 : -2000 ≤ D) (hD2 : D ≤ 0) (hv : Vl A B C x y = v) (hv1 : 1 ≤ v) (i3 : x * s0 - q0 * y = 1) (i4 : q0.natAbs ≤ 3) (i5 : s0.natAbs ≤ 3) (i6 : 0 ≤ x) (i7 : x ≤ 3) (i8 : 0 ≤ y) (i9 : y ≤ 3) : ∃ B0 Q Bh C1, Cmp A B C D x y v q0 s0 B0 Q Bh C1 := by
 have hvb := vl_bd h i6 i7 i8 i9
 rw [hv] at hvb
 unfold Vl at hv
 have hB0b := cmp_b h i4 i5 i6 i7 i8 i9
 have ee := cmp_e2 A B C x y q0 s0
 rw [hv] at ee
 obtain ⟨hQb, e1, t1, t2⟩ := cmp_q (v := v) hv1 hB0b
 have e2 := (ee ((2 * A * x * q0 + B * (x * s0 + y * q0) + 2 * C * y * s0) / (2 * v))).trans e1
 have em := cmp_mat hv i3 e2
 have hdis := (cmp_dis em).trans hD
 obtain ⟨hBB, hC⟩ := cmp_c hv1 (by omega) hD1 hD2 t1 t2 hdis
 exact ⟨_, _, _, _, hv, hv1, by omega, rfl, hB0b, rfl, hQb, qG (A := 20001) (B := 3) (by omega) (by omega), qG (A := 20001) (B := 3) (by omega) (by omega), rfl, e1, t1, t2, e2, rfl, em, hdis, hBB, hC⟩
theorem cmp_impl {A B C D x y v q0 s0 B0 Q Bh C1 : Int} (h : Cmp A B C D x y v q0 s0 B0 Q Bh C1) (i4 : q0.natAbs ≤ 3) (i5 : s0.natAbs ≤ 3) (i1 : (bif eqI y 0 then some (0, x) else (zCa y).bind fun y6 => (zD3 x y6).bind fun y7 => (nz y).bind fun z8 => sI (w64 (Int.tdiv (w64 ((w64 (x * y7)) - 1)) y)) fun f9 => some (f9, y7)) = some (q0, s0)) : zAw (A, B, C) x y = some ((v, Bh, C1), (x, q0 + -Q * x, y, s0 + -Q * y)) := by
 obtain ⟨hv, v1, v2, hB0, b0, hQ, q, m6, m7, hBh, e1, t1, t2, e2, hC1, em, dis, bb, c1⟩ := h
 unfold zAw
 rw [i1]
 simp only [Option.bind_some, sub_w]
 rw [hv, hB0, zW (n := B0) (by omega), zW (n := v) (by omega), zW (n := 2 * v) (by omega), zEn (by omega) (by omega) (by omega) (by omega), hQ]
 simp only [Option.bind_some, qM]
 rw [zW (n := 0 - Q) (by omega), show (0 - Q) = -Q by omega, zW (n := -Q * x) (by omega), zW (n := -Q * y) (by omega), zW (n := q0 + -Q * x) (by omega), zW (n := s0 + -Q * y) (by omega)]
 rw [e2, hC1, zW (n := C1) (by omega), zW (n := Bh) (by omega)]
theorem cmp_spec {A B C D x y v q0 s0 B0 Q Bh C1 : Int} (h : Cmp A B C D x y v q0 s0 B0 Q Bh C1) (hD : B * B - 4 * A * C = D) (hD1 : -2000 ≤ D) (hD2 : D ≤ 0) (i4 : q0.natAbs ≤ 3) (i5 : s0.natAbs ≤ 3) (i2 : zDC x y = some (1, s0, -q0)) : zBi (A, B, C) x y = some ((v, Bh, C1), (x, q0 + -Q * x, y, s0 + -Q * y)) := by
 obtain ⟨hv, v1, v2, hB0, b0, hQ, q, m6, m7, hBh, e1, t1, t2, e2, hC1, em, dis, bb, c1⟩ := h
 unfold zBi
 rw [i2]
 simp only [Option.bind_some]
 rw [dsc_value, at_w, hv, zW (n := v) (by omega)]
 simp only [Option.bind_some, qM]
 rw [show w64 (0 - -q0) = q0 by rw [zW (by omega)]; omega, dsc_polar, polar_w, hB0, zW (n := B0) (by omega)]
 simp only [Option.bind_some]
 rw [zIZ, zW (n := 2 * v) (by omega), zD7 (by omega) (by omega), hBh]
 simp only [Option.bind_some]
 rw [zEY (show 2 * v ≠ 0 by omega), zW (n := Bh - B0) (by omega), tdv (c := -Q) (by omega) (by omega)]
 simp only [Option.bind_some]
 have x1 : x * -Q = -Q * x := Int.mul_comm _ _
 have y1 : y * -Q = -Q * y := Int.mul_comm _ _
 rw [zW (n := -Q) (by omega), x1, y1, zW (n := -Q * x) (by omega), zW (n := -Q * y) (by omega), zW (n := q0 + -Q * x) (by omega), zW (n := s0 + -Q * y) (by omega), zW (n := 2 * v * -Q) (by omega), e1, zW (n := Bh) (by omega), zI1, disc_w, hD, zW (n := D) (by omega)]
 simp only [Option.bind_some]
 rw [zW (n := 4 * v) (by omega), zEY (show 4 * v ≠ 0 by omega)]
 have hBB0 : 0 ≤ Bh * Bh := Int.mul_nonneg t1 t1
 simp only [Option.bind_some]
 rw [zW (n := Bh * Bh) (by omega), zW (n := Bh * Bh - D) (by omega), tdv (b := 4 * v) (c := C1) (by omega) (by omega), zW (n := C1) (by omega)]
theorem complete_both {A B C D x y v : Int} (h : Rb A B C) (hD : B * B - 4 * A * C = D) (hD1 : -2000 ≤ D) (hD2 : D ≤ 0) (hm : (x, y) ∈ ptL) (hv : Vl A B C x y = v) (hv1 : 1 ≤ v) :
  ∃ q s Bh Ch, zAw (A, B, C) x y = some ((v, Bh, Ch), (x, q, y, s)) ∧ zBi (A, B, C) x y = some ((v, Bh, Ch), (x, q, y, s)) ∧ MatInv A B C x q y s v Bh Ch ∧ 0 ≤ Bh ∧ Bh < 2 * v ∧ v ≤ 10000 ∧ q.natAbs ≤ 100000 ∧ s.natAbs ≤ 100000 ∧ 0 ≤ x ∧ x ≤ 3 ∧ 0 ≤ y ∧ y ≤ 3 := by
 obtain ⟨q0, s0, i1, i2, i3, i4, i5, i6, i7, i8, i9⟩ := inv9 hm
 obtain ⟨B0, Q, Bh, C1, k⟩ := cmp_mk h hD hD1 hD2 hv hv1 i3 i4 i5 i6 i7 i8 i9
 have k1 := cmp_impl k i4 i5 i1
 have k2 := cmp_spec k hD hD1 hD2 i4 i5 i2
 obtain ⟨hv, v1, v2, hB0, b0, hQ, q, m6, m7, hBh, e1, t1, t2, e2, hC1, em, dis, bb, c1⟩ := k
 exact ⟨_, _, Bh, C1, k1, k2, em, t1, t2, v2, by omega, by omega, i6, i7, i8, i9⟩
abbrev El := Int × Int
def eM (D : Int) (x y : El) : El := (x.1 * y.1 + D * x.2 * y.2, x.1 * y.2 + x.2 * y.1)
def eA (x y : El) : El := (x.1 + y.1, x.2 + y.2)
def eS (x y : El) : El := (x.1 - y.1, x.2 - y.2)
def eK (k : Int) (x : El) : El := (k * x.1, k * x.2)
def eN (D : Int) (x : El) : Int := x.1 * x.1 - D * x.2 * x.2
def eT (D : Int) (x y : El) : Int := x.1 * y.1 - D * x.2 * y.2
def eW (x y : El) : Int := x.1 * y.2 - x.2 * y.1
def Sp (L : List El) (x : El) : Prop := ∀ P : El → Prop, P (0, 0) → (∀ a b, P a → P b → P (eS a b)) → (∀ l, l ∈ L → P l) → P x
theorem zFD (L : List El) : Sp L (0, 0) := fun P h _ _ => h
theorem zGA {L : List El} {x y : El} (h1 : Sp L x) (h2 : Sp L y) : Sp L (eS x y) := fun P a b c => b _ _ (h1 P a b c) (h2 P a b c)
theorem zDm {L : List El} {x : El} (h : x ∈ L) : Sp L x := fun P a b c => c _ h
theorem jO {x y : El} (h1 : x.1 = y.1) (h2 : x.2 = y.2) : x = y := Prod.ext h1 h2
theorem sp_neg {L : List El} {x : El} (h : Sp L x) : Sp L (eK (-1) x) := by
 have := zGA (zFD L) h
 have e : eS (0, 0) x = eK (-1) x := jO (by simp [eS, eK]) (by simp [eS, eK])
 rwa [e] at this
theorem zJe {L : List El} {x y : El} (h1 : Sp L x) (h2 : Sp L y) : Sp L (eA x y) := by
 have := zGA h1 (sp_neg h2)
 have e : eS x (eK (-1) y) = eA x y := jO (by simp [eS, eK, eA]) (by simp [eS, eK, eA])
 rwa [e] at this
theorem sp_nat {L : List El} {x : El} (h : Sp L x) (n : Nat) : Sp L (eK n x) := by
  induction n with
  | zero => have e : eK ((0 : Nat) : Int) x = (0, 0) := jO (by simp [eK]) (by simp [eK])
            rw [e]; exact zFD L
  | succ n ih =>
    have e : eK ((n + 1 : Nat) : Int) x = eA (eK n x) x := jO (by simp [eK, eA, Int.add_mul]) (by simp [eK, eA, Int.add_mul])
    rw [e]; exact zJe ih h
theorem zH9 {L : List El} {x : El} (h : Sp L x) (k : Int) : Sp L (eK k x) := by
 rcases Int.le_total 0 k with hk | hk
 ·have e : k = (k.toNat : Int) := by omega
  rw [e]; exact sp_nat h _
 ·have e : eK k x = eK (-1) (eK ((-k).toNat : Nat) x) := by
   have e1 : (((-k).toNat : Nat) : Int) = -k := by omega
   rw [e1]
   exact jO (by simp only [eK]; grind) (by simp only [eK]; grind)
  rw [e]; exact sp_neg (sp_nat h _)
theorem sp_le {L M : List El} (h : ∀ l, l ∈ L → Sp M l) {x : El} (hx : Sp L x) : Sp M x := hx (Sp M) (zFD M) (fun _ _ => zGA) h
theorem sp_two {u v x : El} (h : Sp [u, v] x) : ∃ p q : Int, x = eA (eK p u) (eK q v) := by
 refine h (fun x => ∃ p q : Int, x = eA (eK p u) (eK q v)) ⟨0, 0, jO (by simp [eA, eK]) (by simp [eA, eK])⟩ ?_ ?_
 ·rintro a b ⟨p, q, e1⟩ ⟨p', q', e2⟩
  refine ⟨p - p', q - q', ?_⟩
  subst e1 e2
  exact jO (by simp only [eS, eA, eK]; grind) (by simp only [eS, eA, eK]; grind)
 ·intro l hl
  simp only [List.mem_cons, List.not_mem_nil, or_false] at hl
  rcases hl with e | e
  ·exact ⟨1, 0, by subst e; exact jO (by simp [eA, eK]) (by simp [eA, eK])⟩
  ·exact ⟨0, 1, by subst e; exact jO (by simp [eA, eK]) (by simp [eA, eK])⟩
theorem sp_comb {u v : El} (p q : Int) : Sp [u, v] (eA (eK p u) (eK q v)) := zJe (zH9 (zDm (by simp)) p) (zH9 (zDm (by simp)) q)
def eL (D : Int) (a : El) (L : List El) : List El := L.map (eM D a)
def eP (D : Int) (L M : List El) : List El := L.flatMap fun l => M.map (eM D l)
theorem eM_comm (D : Int) (x y : El) : eM D x y = eM D y x := jO (by simp only [eM]; grind) (by simp only [eM]; grind)
theorem zIY (D : Int) (x y z : El) : eM D (eM D x y) z = eM D x (eM D y z) := jO (by simp only [eM]; grind) (by simp only [eM]; grind)
theorem eM_sub (D : Int) (x y z : El) : eM D x (eS y z) = eS (eM D x y) (eM D x z) := jO (by simp only [eM, eS]; grind) (by simp only [eM, eS]; grind)
theorem eM_subl (D : Int) (x y z : El) : eM D (eS x y) z = eS (eM D x z) (eM D y z) := jO (by simp only [eM, eS]; grind) (by simp only [eM, eS]; grind)
theorem eM_zero (D : Int) (x : El) : eM D x (0, 0) = (0, 0) := jO (by simp [eM]) (by simp [eM])
theorem eM_zerol (D : Int) (x : El) : eM D (0, 0) x = (0, 0) := jO (by simp [eM]) (by simp [eM])
theorem zKJ (D : Int) (x y : El) : eN D (eM D x y) = eN D x * eN D y := by simp only [eN, eM]; grind
theorem eN_pos {D : Int} (hD : D < 0) {x : El} (hx : x ≠ (0, 0)) : 0 < eN D x := by
 simp only [eN]
 have h1 : 0 ≤ x.1 * x.1 := by rcases Int.le_total 0 x.1 with h | h; exact Int.mul_nonneg h h; exact Int.mul_nonneg_of_nonpos_of_nonpos h h
 have h2 : 0 ≤ x.2 * x.2 := by rcases Int.le_total 0 x.2 with h | h; exact Int.mul_nonneg h h; exact Int.mul_nonneg_of_nonpos_of_nonpos h h
 have h3 : 0 ≤ (-D) * (x.2 * x.2) := Int.mul_nonneg (by omega) h2
 have e : D * x.2 * x.2 = -((-D) * (x.2 * x.2)) := by grind
 rw [e]
 rcases Decidable.em (x.1 = 0) with h | h
 ·have h4 : x.2 ≠ 0 := fun h5 => hx (jO h h5)
  have h5 : x.2 * x.2 ≠ 0 := fun h6 => by rcases Int.mul_eq_zero.1 h6 with h7 | h7 <;> exact h4 h7
  have h6 : 0 < (-D) * (x.2 * x.2) := Int.mul_pos (by omega) (by omega)
  omega
 ·have h5 : x.1 * x.1 ≠ 0 := fun h6 => by rcases Int.mul_eq_zero.1 h6 with h7 | h7 <;> exact h h7
  omega
theorem eM_ne {D : Int} (hD : D < 0) {x y : El} (hx : x ≠ (0, 0)) (hy : y ≠ (0, 0)) : eM D x y ≠ (0, 0) := by
 intro h
 have h1 := Int.mul_pos (eN_pos hD hx) (eN_pos hD hy)
 rw [← zKJ, h] at h1
 simp [eN] at h1
theorem zFJ {D : Int} {a : El} {L : List El} {x : El} : Sp (eL D a L) x ↔ ∃ y, Sp L y ∧ x = eM D a y := by
 constructor
 ·intro h
  refine h (fun x => ∃ y, Sp L y ∧ x = eM D a y) ⟨(0, 0), zFD L, (eM_zero D a).symm⟩ ?_ ?_
  ·rintro x y ⟨x', h1, e1⟩ ⟨y', h2, e2⟩
   exact ⟨eS x' y', zGA h1 h2, by rw [e1, e2, eM_sub]⟩
  ·intro l hl
   obtain ⟨m, hm, e⟩ := List.mem_map.1 hl
   exact ⟨m, zDm hm, e.symm⟩
 ·rintro ⟨y, hy, e⟩
  subst e
  refine hy (fun y => Sp (eL D a L) (eM D a y)) (by rw [eM_zero]; exact zFD _) ?_ ?_
  ·intro x y h1 h2
   rw [eM_sub]; exact zGA h1 h2
  ·exact fun l hl => zDm (List.mem_map.2 ⟨l, hl, rfl⟩)
theorem mem_eP {D : Int} {L M : List El} {x : El} : x ∈ eP D L M ↔ ∃ l, l ∈ L ∧ ∃ m, m ∈ M ∧ x = eM D l m := by
 simp only [eP, List.mem_flatMap, List.mem_map]
 constructor
 ·rintro ⟨l, hl, m, hm, e⟩; exact ⟨l, hl, m, hm, e.symm⟩
 ·rintro ⟨l, hl, m, hm, e⟩; exact ⟨l, hl, m, hm, e.symm⟩
theorem sp_eP {D : Int} {L M : List El} {x y : El} (hx : Sp L x) (hy : Sp M y) : Sp (eP D L M) (eM D x y) := by
 refine hx (fun x => Sp (eP D L M) (eM D x y)) (by rw [eM_zerol]; exact zFD _) ?_ ?_
 ·intro a b h1 h2
  rw [eM_subl]; exact zGA h1 h2
 ·intro l hl
  refine hy (fun y => Sp (eP D L M) (eM D l y)) (by rw [eM_zero]; exact zFD _) ?_ ?_
  ·intro a b h1 h2
   rw [eM_sub]; exact zGA h1 h2
  ·exact fun m hm => zDm (mem_eP.2 ⟨l, hl, m, hm, rfl⟩)
def Cl (D : Int) (L M : List El) : Prop := ∃ a b : El, a ≠ (0, 0) ∧ b ≠ (0, 0) ∧ ∀ x, Sp (eL D a L) x ↔ Sp (eL D b M) x
theorem cl_refl (D : Int) (L : List El) : Cl D L L := ⟨(1, 0), (1, 0), by simp, by simp, fun _ => Iff.rfl⟩
theorem cl_symm {D : Int} {L M : List El} (h : Cl D L M) : Cl D M L := by
 obtain ⟨a, b, h1, h2, h3⟩ := h
 exact ⟨b, a, h2, h1, fun x => (h3 x).symm⟩
theorem eL_cong {D : Int} {c a b : El} {L M : List El} (h : ∀ x, Sp (eL D a L) x ↔ Sp (eL D b M) x) (x : El) : Sp (eL D (eM D c a) L) x ↔ Sp (eL D (eM D c b) M) x := by
 simp only [zFJ] at h ⊢
 constructor
 ·rintro ⟨y, hy, e⟩
  obtain ⟨z, hz, e2⟩ := (h (eM D a y)).1 ⟨y, hy, rfl⟩
  exact ⟨z, hz, by rw [e, zIY, e2, zIY]⟩
 ·rintro ⟨y, hy, e⟩
  obtain ⟨z, hz, e2⟩ := (h (eM D b y)).2 ⟨y, hy, rfl⟩
  exact ⟨z, hz, by rw [e, zIY, e2, zIY]⟩
theorem zKO {D : Int} (hD : D < 0) {L M N : List El} (h1 : Cl D L M) (h2 : Cl D M N) : Cl D L N := by
 obtain ⟨a, b, ha, hb, h⟩ := h1
 obtain ⟨c, d, hc, hd, k⟩ := h2
 refine ⟨eM D c a, eM D b d, eM_ne hD hc ha, eM_ne hD hb hd, fun x => ?_⟩
 rw [eL_cong h x, eM_comm D c b, eL_cong k x]
theorem sp_iff {L M : List El} (h1 : ∀ l, l ∈ L → Sp M l) (h2 : ∀ l, l ∈ M → Sp L l) (x : El) : Sp L x ↔ Sp M x := ⟨sp_le h1, sp_le h2⟩
theorem cl_mk {D : Int} {a b : El} {L M : List El} (ha : a ≠ (0, 0)) (hb : b ≠ (0, 0)) (h1 : ∀ l, l ∈ L → Sp (eL D b M) (eM D a l)) (h2 : ∀ m, m ∈ M → Sp (eL D a L) (eM D b m)) : Cl D L M := by
 refine ⟨a, b, ha, hb, sp_iff ?_ ?_⟩
 ·intro l hl
  obtain ⟨m, hm, e⟩ := List.mem_map.1 hl
  rw [← e]; exact h1 m hm
 ·intro l hl
  obtain ⟨m, hm, e⟩ := List.mem_map.1 hl
  rw [← e]; exact h2 m hm
theorem zI4 {D : Int} {a b c d : El} {L L' M M' : List El} (h : ∀ x, Sp (eL D a L) x ↔ Sp (eL D b L') x) (k : ∀ x, Sp (eL D c M) x ↔ Sp (eL D d M') x) : ∀ l, l ∈ eP D L M → Sp (eL D (eM D b d) (eP D L' M')) (eM D (eM D a c) l) := by
 intro l hl
 obtain ⟨l1, h1, m1, h2, e⟩ := mem_eP.1 hl
 obtain ⟨y, hy, e1⟩ := zFJ.1 ((h (eM D a l1)).1 (zFJ.2 ⟨l1, zDm h1, rfl⟩))
 obtain ⟨z, hz, e2⟩ := zFJ.1 ((k (eM D c m1)).1 (zFJ.2 ⟨m1, zDm h2, rfl⟩))
 refine zFJ.2 ⟨eM D y z, sp_eP hy hz, ?_⟩
 have e3 : eM D (eM D a c) l = eM D (eM D a l1) (eM D c m1) := by
  rw [e]; exact jO (by simp only [eM]; grind) (by simp only [eM]; grind)
 rw [e3, e1, e2]
 exact jO (by simp only [eM]; grind) (by simp only [eM]; grind)
theorem cl_prod {D : Int} (hD : D < 0) {L L' M M' : List El} (h1 : Cl D L L') (h2 : Cl D M M') : Cl D (eP D L M) (eP D L' M') := by
 obtain ⟨a, b, ha, hb, h⟩ := h1
 obtain ⟨c, d, hc, hd, k⟩ := h2
 exact cl_mk (eM_ne hD ha hc) (eM_ne hD hb hd) (zI4 h k) (zI4 (fun x => (h x).symm) (fun x => (k x).symm))
def fL (f : Int × Int × Int) : List El := [(2 * f.1, 0), (f.2.1, 1)]
def fD (f : Int × Int × Int) : Int := f.2.1 * f.2.1 - 4 * f.1 * f.2.2
def Eqf (f g : Int × Int × Int) : Prop := ∃ p q r s : Int, p * s - q * r = 1 ∧ f.1 = g.1 * p * p + g.2.1 * p * r + g.2.2 * r * r ∧ f.2.1 = 2 * g.1 * p * q + g.2.1 * (p * s + q * r) + 2 * g.2.2 * r * s ∧ f.2.2 = g.1 * q * q + g.2.1 * q * s + g.2.2 * s * s
theorem zIX {f g : Int × Int × Int} (h : Eqf f g) : fD f = fD g := by
 obtain ⟨p, q, r, s, hdet, e1, e2, e3⟩ := h
 simp only [fD]
 have : p * s = 1 + q * r := by omega
 rw [e1, e2, e3]
 grind
theorem zEO {f g : Int × Int × Int} (hf : 0 < f.1) (hg : 0 < g.1) (h : Eqf f g) : Cl (fD g) (fL f) (fL g) := by
 have hd := zIX h
 obtain ⟨p, q, r, s, hdet, e1, e2, e3⟩ := h
 obtain ⟨a, b, c⟩ := f
 obtain ⟨a', b', c'⟩ := g
 simp only [fD] at hd hf hg e1 e2 e3 ⊢
 have hps : p * s = 1 + q * r := by omega
 have hne : ((2 * a' * p + b' * r, r) : El) ≠ (0, 0) := by
  intro h0
  have h1 : r = 0 := congrArg Prod.snd h0
  have h2 : 2 * a' * p + b' * r = 0 := congrArg Prod.fst h0
  subst h1
  have h3 : p = 0 := by
   have : 2 * a' * p = 0 := by omega
   rcases Int.mul_eq_zero.1 this with h4 | h4
   ·omega
   ·exact h4
  subst h3
  omega
 have hne2 : ((2 * a, 0) : El) ≠ (0, 0) := by
  intro h0
  have h1 : 2 * a = 0 := congrArg Prod.fst h0
  omega
 have k1 : eM (b' * b' - 4 * a' * c') (2 * a' * p + b' * r, r) (2 * a, 0) = eM (b' * b' - 4 * a' * c') (2 * a, 0) (eA (eK p (2 * a', 0)) (eK r (b', 1))) := jO (by simp only [eM, eA, eK]; grind) (by simp only [eM, eA, eK]; grind)
 have k2 : eM (b' * b' - 4 * a' * c') (2 * a' * p + b' * r, r) (b, 1) = eM (b' * b' - 4 * a' * c') (2 * a, 0) (eA (eK q (2 * a', 0)) (eK s (b', 1))) := by
  refine jO ?_ ?_
  ·simp only [eM, eA, eK]
   rw [e1, e2]
   have : (2 * a' * p + b' * r) * (2 * a' * p * q + b' * (p * s + q * r) + 2 * c' * r * s) + (b' * b' - 4 * a' * c') * r * 1 - (2 * (a' * p * p + b' * p * r + c' * r * r) * (q * (2 * a') + s * b') + (b' * b' - 4 * a' * c') * 0 * (q * 0 + s * 1)) = (b' * b' - 4 * a' * c') * r * (1 - (p * s - q * r)) := by grind
   rw [hdet] at this
   omega
  ·simp only [eM, eA, eK]
   rw [e1, e2]
   have : (2 * a' * p + b' * r) * 1 + r * (2 * a' * p * q + b' * (p * s + q * r) + 2 * c' * r * s) - (2 * (a' * p * p + b' * p * r + c' * r * r) * (q * 0 + s * 1) + 0 * (q * (2 * a') + s * b')) = (2 * a' * p + b' * r) * (1 - (p * s - q * r)) := by grind
   rw [hdet] at this
   omega
 refine cl_mk hne hne2 ?_ ?_
 ·intro l hl
  simp only [fL, List.mem_cons, List.not_mem_nil, or_false] at hl
  rcases hl with e | e
  ·subst e; rw [k1]; exact zFJ.2 ⟨_, sp_comb p r, rfl⟩
  ·subst e; rw [k2]; exact zFJ.2 ⟨_, sp_comb q s, rfl⟩
 ·intro l hl
  have j1 : eA (eK s (eA (eK p (2 * a', 0)) (eK r (b', 1)))) (eK (-r) (eA (eK q (2 * a', 0)) (eK s (b', 1)))) = ((2 * a', 0) : El) := by
   refine jO ?_ ?_
   ·simp only [eA, eK]
    have : s * (p * (2 * a') + r * b') + -r * (q * (2 * a') + s * b') = 2 * a' * (p * s - q * r) := by grind
    rw [hdet] at this
    omega
   ·simp only [eA, eK]; grind
  have j2 : eA (eK (-q) (eA (eK p (2 * a', 0)) (eK r (b', 1)))) (eK p (eA (eK q (2 * a', 0)) (eK s (b', 1)))) = ((b', 1) : El) := by
   refine jO ?_ ?_
   ·simp only [eA, eK]
    have : -q * (p * (2 * a') + r * b') + p * (q * (2 * a') + s * b') = b' * (p * s - q * r) := by grind
    rw [hdet] at this
    omega
   ·simp only [eA, eK]; grind
  have m1 : ∀ x y : Int, eM (b' * b' - 4 * a' * c') (2 * a, 0) (eA (eK x (eA (eK p (2 * a', 0)) (eK r (b', 1)))) (eK y (eA (eK q (2 * a', 0)) (eK s (b', 1))))) = eA (eK x (eM (b' * b' - 4 * a' * c') (2 * a, 0) (eA (eK p (2 * a', 0)) (eK r (b', 1))))) (eK y (eM (b' * b' - 4 * a' * c') (2 * a, 0) (eA (eK q (2 * a', 0)) (eK s (b', 1))))) := by
   intro x y
   exact jO (by simp only [eM, eA, eK]; grind) (by simp only [eM, eA, eK]; grind)
  have m2 : ∀ x y : Int, Sp (eL (b' * b' - 4 * a' * c') (2 * a' * p + b' * r, r) (fL (a, b, c))) (eA (eK x (eM (b' * b' - 4 * a' * c') (2 * a, 0) (eA (eK p (2 * a', 0)) (eK r (b', 1))))) (eK y (eM (b' * b' - 4 * a' * c') (2 * a, 0) (eA (eK q (2 * a', 0)) (eK s (b', 1)))))) := by
   intro x y
   rw [← k1, ← k2]
   exact zJe (zH9 (zFJ.2 ⟨_, zDm (by simp [fL]), rfl⟩) x) (zH9 (zFJ.2 ⟨_, zDm (by simp [fL]), rfl⟩) y)
  simp only [fL, List.mem_cons, List.not_mem_nil, or_false] at hl
  rcases hl with e | e
  ·subst e; rw [← j1, m1]; exact m2 _ _
  ·subst e; rw [← j2, m1]; exact m2 _ _
theorem eN_comb (D : Int) (p r : Int) (u v : El) : eN D (eA (eK p u) (eK r v)) = p * p * eN D u + 2 * p * r * eT D u v + r * r * eN D v := by
 simp only [eN, eA, eK, eT]; grind
theorem eT_comb (D : Int) (p r q s : Int) (u v : El) : eT D (eA (eK p u) (eK r v)) (eA (eK q u) (eK s v)) = p * q * eN D u + (p * s + q * r) * eT D u v + r * s * eN D v := by
 simp only [eN, eA, eK, eT]; grind
theorem eW_comb (p r q s : Int) (u v : El) : eW (eA (eK p u) (eK r v)) (eA (eK q u) (eK s v)) = (p * s - q * r) * eW u v := by
 simp only [eW, eA, eK]; grind
theorem eT_mul (D : Int) (a x y : El) : eT D (eM D a x) (eM D a y) = eN D a * eT D x y := by simp only [eN, eM, eT]; grind
theorem eW_mul (D : Int) (a x y : El) : eW (eM D a x) (eM D a y) = eN D a * eW x y := by simp only [eN, eM, eW]; grind
theorem eqf_of_cl {f g : Int × Int × Int} (hf : 0 < f.1) (hg : 0 < g.1) (hD : fD g < 0) (hd : fD f = fD g) (h : Cl (fD g) (fL f) (fL g)) : Eqf f g := by
 obtain ⟨α, β, hα, hβ, hs⟩ := h
 have hNα := eN_pos hD hα
 have hNβ := eN_pos hD hβ
 have half : ∀ {f g : Int × Int × Int} {α β : El}, (∀ x, Sp (eL (fD g) α (fL f)) x ↔ Sp (eL (fD g) β (fL g)) x) → ∃ p q r s : Int, eM (fD g) α (2 * f.1, 0) = eM (fD g) β (eA (eK p (2 * g.1, 0)) (eK r (g.2.1, 1))) ∧ eM (fD g) α (f.2.1, 1) = eM (fD g) β (eA (eK q (2 * g.1, 0)) (eK s (g.2.1, 1))) := by
  intro f g α β hs
  obtain ⟨y, hy, e1⟩ := zFJ.1 ((hs _).1 (zFJ.2 ⟨(2 * f.1, 0), zDm (by simp [fL]), rfl⟩))
  obtain ⟨z, hz, e2⟩ := zFJ.1 ((hs _).1 (zFJ.2 ⟨(f.2.1, 1), zDm (by simp [fL]), rfl⟩))
  obtain ⟨p, r, e3⟩ := sp_two hy
  obtain ⟨q, s, e4⟩ := sp_two hz
  exact ⟨p, q, r, s, by rw [e1, e3], by rw [e2, e4]⟩
 obtain ⟨p, q, r, s, e1, e2⟩ := half hs
 obtain ⟨p', q', r', s', e3, e4⟩ := half (f := g) (g := f) (by rw [hd]; exact fun x => (hs x).symm)
 rw [hd] at e3 e4
 have w1 : eN (fD g) α * (2 * f.1) = eN (fD g) β * ((p * s - q * r) * (2 * g.1)) := by
  have h1 := eW_mul (fD g) α (2 * f.1, 0) (f.2.1, 1)
  rw [e1, e2, eW_mul, eW_comb] at h1
  simpa [eW] using h1.symm
 have w2 : eN (fD g) β * (2 * g.1) = eN (fD g) α * ((p' * s' - q' * r') * (2 * f.1)) := by
  have h1 := eW_mul (fD g) β (2 * g.1, 0) (g.2.1, 1)
  rw [e3, e4, eW_mul, eW_comb] at h1
  simpa [eW] using h1.symm
 have hX : 0 < eN (fD g) α * (2 * f.1) := Int.mul_pos hNα (by omega)
 have hY : 0 < eN (fD g) β * (2 * g.1) := Int.mul_pos hNβ (by omega)
 have hdet : p * s - q * r = 1 := by
  have x1 : eN (fD g) α * (2 * f.1) = (eN (fD g) β * (2 * g.1)) * (p * s - q * r) := by rw [w1]; grind
  have x2 : eN (fD g) β * (2 * g.1) = (eN (fD g) α * (2 * f.1)) * (p' * s' - q' * r') := by
   have : eN (fD g) α * ((p' * s' - q' * r') * (2 * f.1)) = (eN (fD g) α * (2 * f.1)) * (p' * s' - q' * r') := by grind
   rw [← this]; exact w2
  generalize hXX : eN (fD g) α * (2 * f.1) = X at *
  generalize hYY : eN (fD g) β * (2 * g.1) = Y at *
  generalize p * s - q * r = t at *
  generalize p' * s' - q' * r' = t' at *
  have ht : 0 < t := by
   rcases Int.lt_or_le 0 t with h | h
   ·exact h
   ·have : Y * t ≤ 0 := Int.mul_nonpos_of_nonneg_of_nonpos (by omega) h
    omega
  have ht' : 0 < t' := by
   rcases Int.lt_or_le 0 t' with h | h
   ·exact h
   ·have : X * t' ≤ 0 := Int.mul_nonpos_of_nonneg_of_nonpos (by omega) h
    omega
  have h1 : X * 1 = X * (t' * t) := by
   have : X = X * t' * t := by rw [← x2]; exact x1
   rw [Int.mul_one, ← Int.mul_assoc]; exact this
  have h2 : 1 = t' * t := Int.eq_of_mul_eq_mul_left (by omega) h1
  have h3 : 1 * t ≤ t' * t := Int.mul_le_mul_of_nonneg_right (by omega) (by omega)
  omega
 have key : eN (fD g) α * f.1 = eN (fD g) β * g.1 := by
  rw [hdet] at w1
  have : 2 * (eN (fD g) α * f.1) = 2 * (eN (fD g) β * g.1) := by grind
  omega
 have hK : 0 < eN (fD g) α * f.1 := Int.mul_pos hNα hf
 have n1 : eN (fD g) (2 * g.1, 0) = 4 * g.1 * g.1 := by simp only [eN]; grind
 have n2 : eN (fD g) (g.2.1, 1) = 4 * g.1 * g.2.2 := by simp only [eN, fD]; grind
 have n3 : eT (fD g) (2 * g.1, 0) (g.2.1, 1) = 2 * g.1 * g.2.1 := by simp only [eT]; grind
 have m1 : eN (fD g) (2 * f.1, 0) = 4 * f.1 * f.1 := by simp only [eN]; grind
 have m2 : eN (fD g) (f.2.1, 1) = 4 * f.1 * f.2.2 := by rw [← hd]; simp only [eN, fD]; grind
 have m3 : eT (fD g) (2 * f.1, 0) (f.2.1, 1) = 2 * f.1 * f.2.1 := by simp only [eT]; grind
 have v1 : eN (fD g) α * (4 * f.1 * f.1) = eN (fD g) β * (p * p * (4 * g.1 * g.1) + 2 * p * r * (2 * g.1 * g.2.1) + r * r * (4 * g.1 * g.2.2)) := by
  rw [← m1, ← n1, ← n2, ← n3, ← eN_comb, ← zKJ, ← zKJ, e1]
 have v2 : eN (fD g) α * (4 * f.1 * f.2.2) = eN (fD g) β * (q * q * (4 * g.1 * g.1) + 2 * q * s * (2 * g.1 * g.2.1) + s * s * (4 * g.1 * g.2.2)) := by
  rw [← m2, ← n1, ← n2, ← n3, ← eN_comb, ← zKJ, ← zKJ, e2]
 have v3 : eN (fD g) α * (2 * f.1 * f.2.1) = eN (fD g) β * (p * q * (4 * g.1 * g.1) + (p * s + q * r) * (2 * g.1 * g.2.1) + r * s * (4 * g.1 * g.2.2)) := by
  rw [← m3, ← n1, ← n2, ← n3, ← eT_comb, ← eT_mul, ← eT_mul, e1, e2]
 have canc : ∀ x y : Int, (eN (fD g) α * f.1) * x = (eN (fD g) β * g.1) * y → x = y := by
  intro x y h
  rw [← key] at h
  exact Int.eq_of_mul_eq_mul_left (by omega) h
 generalize eN (fD g) α = A at *
 generalize eN (fD g) β = B at *
 refine ⟨p, q, r, s, hdet, canc _ _ ?_, canc _ _ ?_, canc _ _ ?_⟩
 ·have e1 : 4 * (A * f.1 * f.1) = A * (4 * f.1 * f.1) := by grind
  have e2 : 4 * (B * g.1 * (g.1 * p * p + g.2.1 * p * r + g.2.2 * r * r)) = B * (p * p * (4 * g.1 * g.1) + 2 * p * r * (2 * g.1 * g.2.1) + r * r * (4 * g.1 * g.2.2)) := by grind
  omega
 ·have e1 : 2 * (A * f.1 * f.2.1) = A * (2 * f.1 * f.2.1) := by grind
  have e2 : 2 * (B * g.1 * (2 * g.1 * p * q + g.2.1 * (p * s + q * r) + 2 * g.2.2 * r * s)) = B * (p * q * (4 * g.1 * g.1) + (p * s + q * r) * (2 * g.1 * g.2.1) + r * s * (4 * g.1 * g.2.2)) := by grind
  omega
 ·have e1 : 4 * (A * f.1 * f.2.2) = A * (4 * f.1 * f.2.2) := by grind
  have e2 : 4 * (B * g.1 * (g.1 * q * q + g.2.1 * q * s + g.2.2 * s * s)) = B * (q * q * (4 * g.1 * g.1) + 2 * q * s * (2 * g.1 * g.2.1) + s * s * (4 * g.1 * g.2.2)) := by grind
  omega
end Go.Proofs.YtnheekadeflecaaGreat
namespace Go.Proofs.YtnheekadeflecaaGreat
theorem sp_in {L : List El} {x y : El} (h : Sp L x) (e : x = y) : Sp L y := e ▸ h
theorem eM_k (D k : Int) (x : El) : eM D (k, 0) x = eK k x := jO (by simp only [eM, eK]; grind) (by simp only [eM, eK]; grind)
theorem fS (a b c : Int) (p q x y : Int) (hx : x = 2 * a * p + b * q) (hy : y = q) : Sp (fL (a, b, c)) (x, y) := by
 have := sp_comb (u := (2 * a, 0)) (v := (b, 1)) p q
 exact sp_in this (jO (by simp only [eA, eK]; rw [hx]; grind) (by simp only [eA, eK]; rw [hy]; grind))
theorem zIz {D k : Int} {L : List El} {x y : El} (h : Sp L x) (e : eK k x = y) : Sp (eL D (k, 0) L) y := zFJ.2 ⟨x, h, by rw [eM_k]; exact e.symm⟩
theorem cl_left {D : Int} (hD : D < 0) {L M N : List El} (h : Cl D M N) : Cl D (eP D M L) (eP D N L) := cl_prod hD h (cl_refl D L)
theorem zFe {x y z : Int} (hx : 0 ≤ x) (h : y ≤ z) : x * y ≤ x * z := Int.mul_le_mul_of_nonneg_left h hx
theorem uq_c {a b c x y : Int} (ha : 1 ≤ a) (hb1 : -a ≤ b) (hb2 : b ≤ a) (hc : a ≤ c) (hy : y ≠ 0) : c ≤ a * x * x + b * x * y + c * y * y := by
 have key : ∀ x y : Int, 0 ≤ x → 1 ≤ y → ∀ b, -a ≤ b → b ≤ a → c ≤ a * x * x + b * x * y + c * y * y := by
  intro x y hx hy b hb1 hb2
  have hxy : 0 ≤ x * y := Int.mul_nonneg hx (by omega)
  have h1 : -(a * (x * y)) ≤ b * (x * y) := by
   have : (-a) * (x * y) ≤ b * (x * y) := Int.mul_le_mul_of_nonneg_right hb1 hxy
   have e : (-a) * (x * y) = -(a * (x * y)) := Int.neg_mul ..
   omega
  have e1 : a * x * x + b * x * y + c * y * y = a * (x * x) + b * (x * y) + c * (y * y) := by grind
  rw [e1]
  rcases Int.le_total y x with h | h
  ·have h2 : a * (x * y) ≤ a * (x * x) := zFe (by omega) (zFe hx h)
   have h3 : c * (1 * 1) ≤ c * (y * y) := zFe (by omega) (Int.mul_le_mul hy hy (by omega) (by omega))
   omega
  ·by_cases h0 : x = 0
   ·subst h0
    have h3 : c * (1 * 1) ≤ c * (y * y) := zFe (by omega) (Int.mul_le_mul hy hy (by omega) (by omega))
    simp only [Int.zero_mul, Int.mul_zero] at *
    omega
   ·have h2 : a * (x * (y - x)) ≤ c * (x * (y - x)) := Int.mul_le_mul_of_nonneg_right hc (Int.mul_nonneg hx (by omega))
    have h4 : x * (y - x) ≤ (y - 1) * y := by
     rcases Int.lt_or_le x y with h5 | h5
     ·have : x * (y - x) ≤ (y - 1) * (y - x) := Int.mul_le_mul_of_nonneg_right (by omega) (by omega)
      have : (y - 1) * (y - x) ≤ (y - 1) * y := zFe (by omega) (by omega)
      omega
     ·have e : y - x = 0 := by omega
      rw [e, Int.mul_zero]
      exact Int.mul_nonneg (by omega) (by omega)
    have h6 : c * (x * (y - x)) ≤ c * ((y - 1) * y) := zFe (by omega) h4
    have e2 : a * (x * (y - x)) = a * (x * y) - a * (x * x) := by grind
    have e3 : c * ((y - 1) * y) = c * (y * y) - c * y := by grind
    have h7 : c * 1 ≤ c * y := zFe (by omega) hy
    omega
 have e2 : a * x * x + b * x * y + c * y * y = a * (-x) * (-x) + (-b) * (-x) * y + c * y * y := by grind
 have e3 : a * x * x + b * x * y + c * y * y = a * x * x + (-b) * x * (-y) + c * (-y) * (-y) := by grind
 have e4 : a * x * x + b * x * y + c * y * y = a * (-x) * (-x) + b * (-x) * (-y) + c * (-y) * (-y) := by grind
 rcases Int.lt_or_le 0 y with h1 | h1 <;> rcases Int.le_total 0 x with h2 | h2
 ·exact key x y h2 h1 b hb1 hb2
 ·rw [e2]; exact key (-x) y (by omega) h1 (-b) (by omega) (by omega)
 ·rw [e3]; exact key x (-y) h2 (by omega) (-b) (by omega) (by omega)
 ·rw [e4]; exact key (-x) (-y) (by omega) (by omega) b hb1 hb2
theorem uq_a {a b c x y : Int} (ha : 1 ≤ a) (hb1 : -a ≤ b) (hb2 : b ≤ a) (hc : a ≤ c) (h : x ≠ 0 ∨ y ≠ 0) : a ≤ a * x * x + b * x * y + c * y * y := by
 by_cases hy : y = 0
 ·subst hy
  have hx : x ≠ 0 := by omega
  have h1 : 1 ≤ x * x := by
   have h2 : 0 < x * x := by
    rcases Int.lt_or_le 0 x with h3 | h3
    ·exact Int.mul_pos h3 h3
    ·exact Int.mul_pos_of_neg_of_neg (by omega) (by omega)
   omega
  have h2 : a * 1 ≤ a * (x * x) := zFe (by omega) h1
  have e : a * x * x + b * x * 0 + c * 0 * 0 = a * (x * x) := by grind
  omega
 ·have := uq_c (x := x) ha hb1 hb2 hc hy
  omega
theorem uq_a2 {a b c a' b' c' p q r s : Int} (ha : 1 ≤ a) (h1 : zBA a b c) (ha' : 1 ≤ a') (h2 : zBA a' b' c') (hdet : p * s - q * r = 1) (e1 : a' = a * p * p + b * p * r + c * r * r) : a ≤ a' ∧ (r ≠ 0 → c ≤ a') := by
 obtain ⟨⟨i1, i2⟩, i3⟩ := h1
 have hac : a ≤ c := by omega
 have hpr : p ≠ 0 ∨ r ≠ 0 := by
  rcases Decidable.em (p = 0) with h | h
  ·right
   intro hr
   rw [h, hr] at hdet
   simp at hdet
  ·exact .inl h
 refine ⟨by rw [e1]; exact uq_a ha (by omega) i2 hac hpr, fun hr => by rw [e1]; exact uq_c ha (by omega) i2 hac hr⟩
theorem red_uniq {a b c a' b' c' p q r s : Int} (ha : 1 ≤ a) (h1 : zBA a b c) (ha' : 1 ≤ a') (h2 : zBA a' b' c') (hdet : p * s - q * r = 1) (e1 : a' = a * p * p + b * p * r + c * r * r) (e2 : b' = 2 * a * p * q + b * (p * s + q * r) + 2 * c * r * s) (e3 : c' = a * q * q + b * q * s + c * s * s) : a = a' ∧ b = b' ∧ c = c' := by
 have f1 : a = a' * s * s + b' * s * (-r) + c' * (-r) * (-r) := by rw [e1, e2, e3]; grind
 have hdet2 : s * p - (-q) * (-r) = 1 := by grind
 obtain ⟨k1, k2⟩ := uq_a2 ha h1 ha' h2 hdet e1
 obtain ⟨k3, k4⟩ := uq_a2 ha' h2 ha h1 hdet2 f1
 have hd : b * b - 4 * a * c = b' * b' - 4 * a' * c' := by rw [e1, e2, e3]; grind
 have haa : a = a' := by omega
 obtain ⟨⟨i1, i2⟩, i3⟩ := h1
 obtain ⟨⟨j1, j2⟩, j3⟩ := h2
 have fin : b = b' → a = a' ∧ b = b' ∧ c = c' := by
  intro hb
  refine ⟨haa, hb, ?_⟩
  subst haa hb
  have : 4 * a * c = 4 * a * c' := by omega
  exact Int.eq_of_mul_eq_mul_left (by omega) this
 by_cases hr : r = 0
 ·subst hr
  have hps : p * s = 1 := by omega
  have hd1 : p.natAbs ∣ 1 := ⟨s.natAbs, by rw [← Int.natAbs_mul, hps]; rfl⟩
  have hp : p = 1 ∨ p = -1 := by have := Nat.dvd_one.1 hd1; omega
  have small : ∀ t : Int, -(2 * a) < 2 * a * t → 2 * a * t < 2 * a → t = 0 := by
   intro t h3 h4
   rcases Int.lt_trichotomy t 0 with h | h | h
   ·have : 2 * a * t ≤ 2 * a * (-1) := zFe (by omega) (by omega)
    omega
   ·exact h
   ·have : 2 * a * 1 ≤ 2 * a * t := zFe (by omega) (by omega)
    omega
  rcases hp with h | h
  ·subst h
   have hs : s = 1 := by omega
   subst hs
   have e4 : b' = 2 * a * q + b := by rw [e2]; grind
   have hq := small q (by omega) (by omega)
   rw [hq] at e4
   exact fin (by omega)
  ·subst h
   have hs : s = -1 := by omega
   subst hs
   have e4 : b' = 2 * a * (-q) + b := by rw [e2]; grind
   have hq := small (-q) (by omega) (by omega)
   rw [hq] at e4
   exact fin (by omega)
 ·have m1 := k2 hr
  have m2 := k4 (by omega)
  have hcc : c = c' := by omega
  subst haa hcc
  have hb : b = b' := by
   have hsq : (b - b') * (b + b') = 0 := by grind
   rcases Int.mul_eq_zero.1 hsq with h | h <;> omega
  exact fin hb
theorem bez_nat : ∀ (a b : Nat), ∃ x y : Int, x * a + y * b = (Nat.gcd a b : Int) := by
 intro a b
 induction a, b using Nat.gcd.induction with
 | H0 n => exact ⟨0, 1, by simp⟩
 | H1 m n hm ih =>
  obtain ⟨x, y, h⟩ := ih
  refine ⟨y - x * (n / m : Nat), x, ?_⟩
  rw [Nat.gcd_rec, ← h]
  have e : (n : Int) = (n % m : Nat) + m * (n / m : Nat) := by exact_mod_cast (Nat.mod_add_div n m).symm
  rw [e]
  grind
theorem bez_int (a b : Int) : ∃ x y : Int, x * a + y * b = (Int.gcd a b : Int) := by
 obtain ⟨x, y, h⟩ := bez_nat a.natAbs b.natAbs
 have sg : ∀ z : Int, ∃ t : Int, (z.natAbs : Int) = t * z := by
  intro z
  rcases Int.le_total 0 z with h | h
  ·exact ⟨1, by omega⟩
  ·exact ⟨-1, by omega⟩
 obtain ⟨s, hs⟩ := sg a
 obtain ⟨t, ht⟩ := sg b
 refine ⟨x * s, y * t, ?_⟩
 rw [hs, ht] at h
 rw [show Int.gcd a b = Nat.gcd a.natAbs b.natAbs from rfl, ← h]
 grind
structure Uni (a b c A B C D x y q s e hB hC b1 c1 α β : Int) : Prop where
  mh : MatInv A B C x q y s e hB hC
  e1 : 1 ≤ e
  e2 : e ≤ 10000
  t : ∃ u v : Int, u * a + v * e = 1
  bα : b1 = b + 2 * a * α
  bβ : b1 = hB + 2 * e * β
  b0 : 0 ≤ b1
  b2 : b1 < 2 * a * e
  dis : b1 * b1 - 4 * a * e * c1 = D
  qb : q.natAbs ≤ 100000
  sb : s.natAbs ≤ 100000
  xy : 0 ≤ x ∧ x ≤ 3 ∧ 0 ≤ y ∧ y ≤ 3
end Go.Proofs.YtnheekadeflecaaGreat
namespace Go.Proofs.YtnheekadeflecaaGreat
def PrRc (D : Int) (f : Int × Int × Int) : Prop := 1 ≤ f.1 ∧ zBA f.1 f.2.1 f.2.2 ∧ f.2.1 * f.2.1 - 4 * f.1 * f.2.2 = D ∧ ∀ k : Int, k ∣ f.1 → k ∣ f.2.1 → k ∣ f.2.2 → k ∣ 1
theorem prr_rb {D : Int} {f : Int × Int × Int} (hD1 : -2000 ≤ D) (h : PrRc D f) : Rb f.1 f.2.1 f.2.2 ∧ f.1 ≤ 25 := by
 obtain ⟨h1, h2, h3, h4⟩ := h
 obtain ⟨⟨i1, i2⟩, i3⟩ := h2
 have hbb : f.2.1 * f.2.1 ≤ f.1 * f.1 := by
  rcases Int.le_total 0 f.2.1 with h4 | h4
  ·exact Int.mul_le_mul i2 i2 h4 (by omega)
  ·have : (-f.2.1) * (-f.2.1) ≤ f.1 * f.1 := Int.mul_le_mul (by omega) (by omega) (by omega) (by omega)
   have e : (-f.2.1) * (-f.2.1) = f.2.1 * f.2.1 := by grind
   omega
 have h7 : 4 * f.1 * f.1 ≤ 4 * f.1 * f.2.2 := Int.mul_le_mul_of_nonneg_left (by omega) (by omega)
 have e1 : 4 * f.1 * f.1 = 4 * (f.1 * f.1) := Int.mul_assoc ..
 have ha : f.1 ≤ 25 := by
  rcases Int.lt_or_le 25 f.1 with h8 | h8
  ·have : 26 * 26 ≤ f.1 * f.1 := Int.mul_le_mul (by omega) (by omega) (by omega) (by omega)
   omega
  ·exact h8
 have haa : f.1 * f.1 ≤ 25 * 25 := Int.mul_le_mul ha ha (by omega) (by omega)
 have h9 : 4 * 1 * f.2.2 ≤ 4 * f.1 * f.2.2 := Int.mul_le_mul_of_nonneg_right (by omega) (by omega)
 exact ⟨⟨h1, by omega, by omega, by omega, by omega, by omega⟩, ha⟩
end Go.Proofs.YtnheekadeflecaaGreat
namespace Go.Proofs.YtnheekadeflecaaGreat
abbrev F3 := Int × Int × Int
def CF (D : Int) (f : F3) : Prop := RedInv f.1 f.2.1 f.2.2 D 1 ∧ f.2.2 ≤ 1000000
theorem cf_of_class {f : F3} (h : qC f = some true) : CF (f.2.1 * f.2.1 - 4 * f.1 * f.2.2) f := by
 have h1 := red_of_class (a := f.1) (b := f.2.1) (c := f.2.2) h
 obtain ⟨_, _, hc, _⟩ := zFS (a := f.1) (b := f.2.1) (c := f.2.2) h
 exact ⟨h1, (zAf.1 hc).2⟩
theorem prc_pos {D : Int} {f : F3} (h : PrRc D f) : 0 < f.1 := by have := h.1; omega
theorem prc_disc {D : Int} {f : F3} (h : PrRc D f) : fD f = D := h.2.2.1
theorem con_one {a b c d : Int} (h : RedInv a b c d 1) (k : Int) (h1 : k ∣ a) (h2 : k ∣ b) (h3 : k ∣ c) : k ∣ 1 := (h.con k).1 ⟨h1, h2, h3⟩
theorem red_cf {D : Int} {f : F3} (h : CF D f) : ∃ g m1 m2 m3 m4, jI f = some (g, (m1, m2, m3, m4)) ∧ jY f = some (g, (m1, m2, m3, m4)) ∧ PrRc D g ∧ Eqf g f ∧ MatInv f.1 f.2.1 f.2.2 m1 m2 m3 m4 g.1 g.2.1 g.2.2 ∧ m1.natAbs ≤ 2000 ∧ m2.natAbs ≤ 2000 ∧ m3.natAbs ≤ 2000 ∧ m4.natAbs ≤ 2000 ∧ CF D g := by
 obtain ⟨a, b, c⟩ := f
 obtain ⟨h1, h2⟩ := h
 have hd := h1.dis
 simp only [] at h1 h2 hd
 have h1' : RedInv a b c (b * b - 4 * a * c) 1 := by rw [hd]; exact h1
 obtain ⟨m1, m2, m3, m4, a2, b2, c2, k1, k2, k3, k4, k5, k6, k7, k8, k9⟩ := red_full h1' h2
 rw [hd] at k3
 have hp : PrRc D (a2, b2, c2) := ⟨k3.a1, k4, k3.dis, con_one k3⟩
 have e := k5
 obtain ⟨e1, e2, e3, e4⟩ := e
 refine ⟨(a2, b2, c2), m1, m2, m3, m4, k1, k2, hp, ⟨m1, m2, m3, m4, e4, ?_, ?_, ?_⟩, k5, k6, k7, k8, k9, k3, ?_⟩
 ·exact e1.symm
 ·exact e2.symm
 ·exact e3.symm
 ·show c2 ≤ 1000000
  have h3 := k3.nrm
  obtain ⟨⟨g1, g2⟩, g3⟩ := k4
  have h4 := k3.cM
  rcases h3 with h3 | h3
  ·have q1 := k3.aM
   have q2 := k3.a1
   -- a reduced form's last coefficient
   rcases Int.lt_or_le 1000000 c2 with h5 | h5
   ·exfalso
    have n1 : a2 * a2 ≤ a2 * c2 := Int.mul_le_mul_of_nonneg_left (by omega) (by omega)
    have hbb : b2 * b2 ≤ a2 * a2 := by
     rcases Int.le_total 0 b2 with h4 | h4
     ·exact Int.mul_le_mul g2 g2 h4 (by omega)
     ·have : (-b2) * (-b2) ≤ a2 * a2 := Int.mul_le_mul (by omega) (by omega) (by omega) (by omega)
      have e : (-b2) * (-b2) = b2 * b2 := by grind
      omega
    have hdd := k3.dis
    have e9 : 4 * a2 * c2 = 4 * (a2 * c2) := Int.mul_assoc ..
    have hneg := k3.neg
    -- the value at the original form's last coefficient is at least c2 or the form is not moved
    have hv : c = a2 * (-m2) * (-m2) + b2 * (-m2) * m1 + c2 * m1 * m1 := by rw [← e1, ← e2, ← e3]; grind
    have hv2 : a = a2 * m4 * m4 + b2 * m4 * (-m3) + c2 * (-m3) * (-m3) := by rw [← e1, ← e2, ← e3]; grind
    have ha2 := h1.aM
    by_cases hm : m1 = 0
    ·have hm3 : m3 ≠ 0 := by
      intro h0
      rw [hm, h0] at e4
      simp at e4
     have := uq_c (x := m4) q2 (by omega) g2 (show a2 ≤ c2 by omega) (show (-m3) ≠ 0 by omega)
     omega
    ·have := uq_c (x := -m2) q2 (by omega) g2 (show a2 ≤ c2 by omega) hm
     omega
   ·exact h5
  ·exact h3
theorem cl_red {D : Int} {f g : F3} (hf : 0 < f.1) (hD : fD f = D) (h : Eqf g f) (hg : 0 < g.1) : Cl D (fL g) (fL f) := by
 have := zEO hg hf h
 rw [hD] at this
 exact this
theorem prc_uniq {D : Int} {f g : F3} (hD : D < 0) (hf : PrRc D f) (hg : PrRc D g) (h : Cl D (fL f) (fL g)) : f = g := by
 have d1 := prc_disc hf
 have d2 := prc_disc hg
 have h' : Cl (fD g) (fL f) (fL g) := by rw [d2]; exact h
 obtain ⟨p, q, r, s, hdet, e1, e2, e3⟩ := eqf_of_cl (prc_pos hf) (prc_pos hg) (by rw [d2]; exact hD) (by rw [d1, d2]) h'
 obtain ⟨k1, k2, k3⟩ := red_uniq hg.1 hg.2.1 hf.1 hf.2.1 hdet e1 e2 e3
 exact Prod.ext k1.symm (Prod.ext k2.symm k3.symm)
theorem zIQ {f g : F3} (h : Eqf f g) (hg : ∀ k : Int, k ∣ g.1 → k ∣ g.2.1 → k ∣ g.2.2 → k ∣ 1) (k : Int) (h1 : k ∣ f.1) (h2 : k ∣ f.2.1) (h3 : k ∣ f.2.2) : k ∣ 1 := by
 obtain ⟨p, q, r, s, hdet, e1, e2, e3⟩ := h
 obtain ⟨x, hx⟩ := h1
 obtain ⟨y, hy⟩ := h2
 obtain ⟨z, hz⟩ := h3
 have back : ∀ A B C : Int, (A * p * p + B * p * r + C * r * r) * s * s - (2 * A * p * q + B * (p * s + q * r) + 2 * C * r * s) * s * r + (A * q * q + B * q * s + C * s * s) * r * r = A * ((p * s - q * r) * (p * s - q * r)) := by intro A B C; grind
 have back2 : ∀ A B C : Int, (A * p * p + B * p * r + C * r * r) * q * q - (2 * A * p * q + B * (p * s + q * r) + 2 * C * r * s) * p * q + (A * q * q + B * q * s + C * s * s) * p * p = C * ((p * s - q * r) * (p * s - q * r)) := by intro A B C; grind
 have back3 : ∀ A B C : Int, (2 * A * p * q + B * (p * s + q * r) + 2 * C * r * s) * (p * s + q * r) - 2 * (A * p * p + B * p * r + C * r * r) * q * s - 2 * (A * q * q + B * q * s + C * s * s) * p * r = B * ((p * s - q * r) * (p * s - q * r)) := by intro A B C; grind
 have b1 := back g.1 g.2.1 g.2.2
 have b2 := back2 g.1 g.2.1 g.2.2
 have b3 := back3 g.1 g.2.1 g.2.2
 rw [← e1, ← e2, ← e3, hdet, hx, hy, hz] at b1 b2 b3
 refine hg k ⟨x * s * s - y * s * r + z * r * r, ?_⟩ ⟨y * (p * s + q * r) - 2 * x * q * s - 2 * z * p * r, ?_⟩ ⟨x * q * q - y * p * q + z * p * p, ?_⟩
 ·have : k * x * s * s - k * y * s * r + k * z * r * r = k * (x * s * s - y * s * r + z * r * r) := by grind
  omega
 ·have : k * y * (p * s + q * r) - 2 * (k * x) * q * s - 2 * (k * z) * p * r = k * (y * (p * s + q * r) - 2 * x * q * s - 2 * z * p * r) := by grind
  omega
 ·have : k * x * q * q - k * y * p * q + k * z * p * p = k * (x * q * q - y * p * q + z * p * p) := by grind
  omega
end Go.Proofs.YtnheekadeflecaaGreat
namespace Go.Proofs.YtnheekadeflecaaGreat
def gS (D : Int) (hD : D < 0) : Setoid (List El) := ⟨Cl D, cl_refl D, cl_symm, zKO hD⟩
def GG (D : Int) (hD : D < 0) : Type := Quotient (gS D hD)
def gC (D : Int) (hD : D < 0) (f : F3) : GG D hD := Quotient.mk (gS D hD) (fL f)
theorem zKD {D : Int} {hD : D < 0} {f g : F3} : gC D hD f = gC D hD g ↔ Cl D (fL f) (fL g) := ⟨fun h => Quotient.exact h, fun h => Quotient.sound h⟩
def pF (D : Int) : F3 := (1, D % 2, (D % 2 - D) / 4)
def g1 (D : Int) (hD : D < 0) : GG D hD := gC D hD (pF D)
theorem disc_par {D a b c : Int} (h : b * b - 4 * a * c = D) : D % 4 ≤ 1 ∧ D % 2 = b % 2 := by
 have e : 4 * a * c = 4 * (a * c) := Int.mul_assoc ..
 obtain ⟨t, ht | ht⟩ : ∃ t, b = 2 * t ∨ b = 2 * t + 1 := ⟨b / 2, by omega⟩
 ·rw [ht, show 2 * t * (2 * t) = 4 * (t * t) by grind] at h; omega
 ·rw [ht, show (2 * t + 1) * (2 * t + 1) = 4 * (t * t + t) + 1 by grind] at h; omega
theorem cf_of_prc {D : Int} (hD1 : -2000 ≤ D) (hD2 : D < 0) {f : F3} (h : PrRc D f) : CF D f := by
 obtain ⟨r, ra⟩ := prr_rb hD1 h
 obtain ⟨h1, h2, h3, h4⟩ := h
 obtain ⟨r1, r2, r3, r4, r5, r6⟩ := r
 refine ⟨⟨h1, by omega, by omega, by omega, r5, by omega, h3, hD2, .inr (by omega), fun k => ⟨fun ⟨a, b, c⟩ => h4 k a b c, fun t => ?_⟩⟩, by omega⟩
 exact ⟨Int.dvd_trans t (Int.one_dvd _), Int.dvd_trans t (Int.one_dvd _), Int.dvd_trans t (Int.one_dvd _)⟩
theorem cf_pos {D : Int} {f : F3} (h : CF D f) : 0 < f.1 := by have := h.1.a1; omega
theorem cf_disc {D : Int} {f : F3} (h : CF D f) : fD f = D := h.1.dis
theorem prc_eq {D : Int} {hD : D < 0} {f g : F3} (hf : PrRc D f) (hg : PrRc D g) (h : gC D hD f = gC D hD g) : f = g := prc_uniq hD hf hg (zKD.1 h)
end Go.Proofs.YtnheekadeflecaaGreat
namespace Go.Proofs.YtnheekadeflecaaGreat
theorem zJL {D : Int} (hD1 : -2000 ≤ D) {f : F3} (h : CF D f) : zY f = some D := by
 obtain ⟨a, b, c⟩ := f
 have := h.1.dis
 have hn := h.1.neg
 simp only [] at this
 rw [disc_w, this, zW (by omega)]
theorem zI3 {D : Int} (hD1 : -2000 ≤ D) (hD : D < 0) {f : F3} (h : PrRc D f) : qC f = some true ∧ zY f = some D := by
 obtain ⟨r, ra⟩ := prr_rb hD1 h
 have hdv := zJL hD1 (cf_of_prc hD1 hD h)
 obtain ⟨a, b, c⟩ := f
 obtain ⟨h1, h2, h3, h4⟩ := h
 obtain ⟨r1, r2, r3, r4, r5, r6⟩ := r
 dsimp only at h1 h2 h3 h4 r1 r2 r3 r4 r5 r6
 have ha : inN a = true := zAf.2 (by omega)
 have hb : inN b = true := zAf.2 (by omega)
 have hc : inN c = true := zAf.2 (by omega)
 have hg : Int.gcd a (Int.gcd b c) = 1 := by
  have h5 : ((Int.gcd a (Int.gcd b c) : Nat) : Int) ∣ 1 := h4 _ (Int.gcd_dvd_left _ _) (Int.dvd_trans (Int.gcd_dvd_right _ _) (Int.gcd_dvd_left _ _)) (Int.dvd_trans (Int.gcd_dvd_right _ _) (Int.gcd_dvd_right _ _))
  have h6 := Int.eq_one_of_dvd_one (by omega) h5
  omega
 refine ⟨?_, hdv⟩
 simp only [qC, jM, qZ, zFt, ha, hb, hc, Bool.and_true, Option.bind_some, hdv, cond_true, zEN ha hb hc, hg, jN, zAN, decide_eq_true (show D < 0 by omega), decide_eq_true (show 0 < a by omega), decide_eq_true hD1]
 rfl
def CFc (D : Int) (f : F3) : Prop := qC f = some true ∧ zY f = some D ∧ CF D f ∧ -2000 ≤ D ∧ D < 0
theorem cfc_of {f : F3} (h : qC f = some true) : CFc (f.2.1 * f.2.1 - 4 * f.1 * f.2.2) f := by
 have h1 := cf_of_class h
 obtain ⟨_, _, _, k1, k2, _⟩ := zFS (a := f.1) (b := f.2.1) (c := f.2.2) h
 exact ⟨h, zJL k2 h1, h1, k2, k1⟩
theorem prin_val {D : Int} (hD1 : -2000 ≤ D) (hD : D < 0) (h4 : D % 4 ≤ 1) : zBd D = some (pF D) := by
 simp only [zBd]
 rw [zD7 (by omega) (by omega)]
 simp only [Option.bind_some, qM]
 rw [zW (n := D % 2 - D) (by omega), tdv (a := D % 2 - D) (b := 4) (c := (D % 2 - D) / 4) (by decide) (by omega), zW (by omega)]
 rfl
abbrev M4 := Int × Int × Int × Int
def FV (f : F3) (x y : Int) : Int := f.1 * x * x + f.2.1 * x * y + f.2.2 * y * y
theorem zJ6 {A B C p q r s a b c : Int} (h : MatInv A B C p q r s a b c) (X Y : Int) : FV (a, b, c) X Y = FV (A, B, C) (p * X + q * Y) (r * X + s * Y) := by
 obtain ⟨e1, e2, e3, _⟩ := h
 simp only [FV]
 rw [← e1, ← e2, ← e3]; grind
theorem inv_undo {p q r s : Int} (h : p * s - q * r = 1) (x y : Int) : p * (s * x - q * y) + q * (-(r * x) + p * y) = x ∧ r * (s * x - q * y) + s * (-(r * x) + p * y) = y := by
 constructor
 ·have : p * (s * x - q * y) + q * (-(r * x) + p * y) = (p * s - q * r) * x := by grind
  rw [this, h]; omega
 ·have : r * (s * x - q * y) + s * (-(r * x) + p * y) = (p * s - q * r) * y := by grind
  rw [this, h]; omega
theorem inv_w {p q r s : Int} (h : p * s - q * r = 1) : q9 (w64 p, w64 q, w64 r, w64 s) = some (w64 s, w64 (-q), w64 (-r), w64 p) := by
 simp only [q9, zC4, qM, wml, wmr, wal, war, wsl, wsr, Option.bind_some, h]
 have e : ∀ z : Int, w64 (1 * z) = w64 z := fun z => by rw [Int.one_mul]
 have e2 : ∀ z : Int, w64 (w64 (0 - w64 1) * z) = w64 (-z) := fun z => by rw [show w64 (0 - w64 1) = -1 from rfl]; congr 1; omega
 have e3 : ∀ z : Int, w64 ((0 - w64 1) * z) = w64 (-z) := fun z => by rw [show w64 1 = 1 from rfl]; congr 1; omega
 simp only [e, e3]
theorem inv_e {p q r s : Int} (h : p * s - q * r = 1) : q9 (p, q, r, s) = some (w64 s, w64 (-q), w64 (-r), w64 p) := by
 simp only [q9, zC4, qM, wml, wmr, wal, war, wsl, wsr, Option.bind_some, h]
 have e : ∀ z : Int, w64 (1 * z) = w64 z := fun z => by rw [Int.one_mul]
 have e3 : ∀ z : Int, w64 ((0 - w64 1) * z) = w64 (-z) := fun z => by rw [show w64 1 = 1 from rfl]; congr 1; omega
 simp only [e, e3]
theorem mat_pol (A B C p q r s p' q' r' s' : Int) : 2 * (A * p * p + B * p * r + C * r * r) * p' * q' + (2 * A * p * q + B * (p * s + q * r) + 2 * C * r * s) * (p' * s' + q' * r') + 2 * (A * q * q + B * q * s + C * s * s) * r' * s' = 2 * A * (p * p' + q * r') * (p * q' + q * s') + B * ((p * p' + q * r') * (r * q' + s * s') + (p * q' + q * s') * (r * p' + s * r')) + 2 * C * (r * p' + s * r') * (r * q' + s * s') := by grind
theorem mat_mul {A B C p q r s a b c p' q' r' s' a' b' c' : Int} (h : MatInv A B C p q r s a b c) (k : MatInv a b c p' q' r' s' a' b' c') : MatInv A B C (p * p' + q * r') (p * q' + q * s') (r * p' + s * r') (r * q' + s * s') a' b' c' := by
 have v1 := zJ6 h p' r'
 have v2 := zJ6 h q' s'
 obtain ⟨e1, e2, e3, e4⟩ := k
 simp only [FV] at v1 v2
 refine ⟨by rw [← e1, v1], ?_, by rw [← e3, v2], ?_⟩
 ·rw [← e2, ← h.e1, ← h.e2, ← h.e3]
  exact (mat_pol A B C p q r s p' q' r' s').symm
 ·have : (p * p' + q * r') * (r * q' + s * s') - (p * q' + q * s') * (r * p' + s * r') = (p * s - q * r) * (p' * s' - q' * r') := by grind
  rw [this, h.dt, e4]; rfl
end Go.Proofs.YtnheekadeflecaaGreat
namespace Go.Proofs.YtnheekadeflecaaGreat
def fi (p : Int) (x : El) : El := (x.1, p * x.2)
def fiL (p : Int) (L : List El) : List El := L.map (fi p)
theorem fi_mul (p D : Int) (x y : El) : fi p (eM (p * p * D) x y) = eM D (fi p x) (fi p y) := jO (by simp only [fi, eM]; grind) (by simp only [fi, eM]; grind)
theorem fi_sub (p : Int) (x y : El) : fi p (eS x y) = eS (fi p x) (fi p y) := jO (by simp only [fi, eS]) (by simp only [fi, eS]; grind)
theorem fi_zero (p : Int) : fi p (0, 0) = (0, 0) := jO (by simp [fi]) (by simp [fi])
theorem fi_ne {p : Int} (hp : p ≠ 0) {x : El} (h : x ≠ (0, 0)) : fi p x ≠ (0, 0) := by
 intro e
 have e1 : x.1 = 0 := congrArg Prod.fst e
 have e2 : p * x.2 = 0 := congrArg Prod.snd e
 have e3 : x.2 = 0 := by
  rcases Int.mul_eq_zero.1 e2 with h1 | h1
  ·exact absurd h1 hp
  ·exact h1
 exact h (jO e1 e3)
theorem sp_fi {p : Int} {L : List El} {x : El} : Sp (fiL p L) x ↔ ∃ y, Sp L y ∧ x = fi p y := by
 constructor
 ·intro h
  refine h (fun x => ∃ y, Sp L y ∧ x = fi p y) ⟨(0, 0), zFD L, (fi_zero p).symm⟩ ?_ ?_
  ·rintro x y ⟨x', h1, e1⟩ ⟨y', h2, e2⟩
   exact ⟨eS x' y', zGA h1 h2, by rw [e1, e2, fi_sub]⟩
  ·intro l hl
   obtain ⟨m, hm, e⟩ := List.mem_map.1 hl
   exact ⟨m, zDm hm, e.symm⟩
 ·rintro ⟨y, hy, e⟩
  subst e
  refine hy (fun y => Sp (fiL p L) (fi p y)) (by rw [fi_zero]; exact zFD _) ?_ ?_
  ·intro x y h1 h2
   rw [fi_sub]; exact zGA h1 h2
  ·exact fun l hl => zDm (List.mem_map.2 ⟨l, hl, rfl⟩)
theorem fi_eL (p D : Int) (a : El) (L : List El) : fiL p (eL (p * p * D) a L) = eL D (fi p a) (fiL p L) := by
 simp only [fiL, eL, List.map_map]
 refine List.map_congr_left fun x _ => ?_
 exact fi_mul p D a x
theorem cl_fi {p D : Int} (hp : p ≠ 0) {L M : List El} (h : Cl (p * p * D) L M) : Cl D (fiL p L) (fiL p M) := by
 obtain ⟨a, b, ha, hb, h⟩ := h
 refine ⟨fi p a, fi p b, fi_ne hp ha, fi_ne hp hb, fun x => ?_⟩
 rw [← fi_eL, ← fi_eL, sp_fi, sp_fi]
 constructor
 ·rintro ⟨y, hy, e⟩; exact ⟨y, (h y).1 hy, e⟩
 ·rintro ⟨y, hy, e⟩; exact ⟨y, (h y).2 hy, e⟩
theorem zCO {p D : Int} (hp : 2 ≤ p) (hD : D < 0) : p * p * D < 0 := by
 have h1 : 0 < p * p := Int.mul_pos (by omega) (by omega)
 exact Int.mul_neg_of_pos_of_neg h1 hD
def gDn {p D : Int} (hp : 2 ≤ p) (hD : D < 0) (x : GG (p * p * D) (zCO hp hD)) : GG D hD := Quotient.lift (s := gS (p * p * D) (zCO hp hD)) (fun l => (Quotient.mk (gS D hD) (eP D (fiL p l) (fL (pF D))) : GG D hD)) (fun _ _ h => Quotient.sound (s := gS D hD) (cl_left hD (cl_fi (show p ≠ 0 by omega) h))) x
theorem gDn_low {p D : Int} (hp : 2 ≤ p) (hD1 : -2000 ≤ D) (hD : D < 0) {v B C : Int} (hv : 0 < v) (hlow : B * B - 4 * v * C = D) {s t : Int} (hst : s * v + t * p = 1) : gDn hp hD (gC (p * p * D) (zCO hp hD) (v, p * B, p * p * C)) = gC D hD (v, B, C) := by
 obtain ⟨h4, hpar⟩ := disc_par (a := v) (c := C) hlow
 obtain ⟨m, hm⟩ : ∃ m, D % 2 - B = 2 * m := ⟨(D % 2 - B) / 2, by omega⟩
 refine Quotient.sound (s := gS D hD) ?_
 show Cl D (eP D (fiL p (fL (v, p * B, p * p * C))) (fL (pF D))) (fL (v, B, C))
 generalize hβ : D % 2 = β at *
 have hpF : fL (pF D) = [(2, 0), (β, 1)] := by simp only [fL, pF, hβ]; rfl
 have mem : ∀ x, x ∈ eP D (fiL p (fL (v, p * B, p * p * C))) (fL (pF D)) ↔ x = (4 * v, 0) ∨ x = (2 * v * β, 2 * v) ∨ x = (2 * p * B, 2 * p) ∨ x = (p * B * β + D * p, p * B + p * β) := by
  intro x
  rw [mem_eP, hpF]
  simp only [fiL, fL, List.map_cons, List.map_nil, List.mem_cons, List.not_mem_nil, or_false, fi]
  constructor
  ·rintro ⟨l, hl, m, hm, e⟩
   rcases hl with e1 | e1 <;> rcases hm with e2 | e2 <;> subst e1 e2
   ·left; rw [e]; exact jO (by simp only [eM]; grind) (by simp only [eM]; grind)
   ·right; left; rw [e]; exact jO (by simp only [eM]; grind) (by simp only [eM]; grind)
   ·right; right; left; rw [e]; exact jO (by simp only [eM]; grind) (by simp only [eM]; grind)
   ·right; right; right; rw [e]; exact jO (by simp only [eM]; grind) (by simp only [eM]; grind)
  ·rintro (e | e | e | e)
   ·exact ⟨_, .inl rfl, _, .inl rfl, by rw [e]; exact jO (by simp only [eM]; grind) (by simp only [eM]; grind)⟩
   ·exact ⟨_, .inl rfl, _, .inr rfl, by rw [e]; exact jO (by simp only [eM]; grind) (by simp only [eM]; grind)⟩
   ·exact ⟨_, .inr rfl, _, .inl rfl, by rw [e]; exact jO (by simp only [eM]; grind) (by simp only [eM]; grind)⟩
   ·exact ⟨_, .inr rfl, _, .inr rfl, by rw [e]; exact jO (by simp only [eM]; grind) (by simp only [eM]; grind)⟩
 refine cl_mk (a := (1, 0)) (b := (2, 0)) (by simp) (by simp) ?_ ?_
 ·intro l hl
  rw [eM_k]
  rcases (mem l).1 hl with h | h | h | h
  ·subst h; exact zIz (fS v B C 1 0 (2 * v) 0 (by grind) rfl) (jO (by simp only [eK]; grind) (by simp only [eK]; grind))
  ·subst h; exact zIz (fS v B C m v (v * β) v (by grind) rfl) (jO (by simp only [eK]; grind) (by simp only [eK]; grind))
  ·subst h; exact zIz (fS v B C 0 p (p * B) p (by grind) rfl) (jO (by simp only [eK]; grind) (by simp only [eK]; grind))
  ·subst h
   refine zIz (fS v B C (-(p * C)) (p * (B + m)) (-(2 * v * (p * C)) + B * (p * (B + m))) (p * (B + m)) (by grind) rfl) (jO ?_ ?_)
   ·simp only [eK]
    have e1 : β = B + 2 * m := by omega
    rw [← hlow, e1]; grind
   ·simp only [eK]
    have e1 : β = B + 2 * m := by omega
    rw [e1]; grind
 ·intro l hl
  rw [eM_k]
  have k1 : Sp (eP D (fiL p (fL (v, p * B, p * p * C))) (fL (pF D))) (4 * v, 0) := zDm ((mem _).2 (.inl rfl))
  have k2 : Sp (eP D (fiL p (fL (v, p * B, p * p * C))) (fL (pF D))) (2 * v * β, 2 * v) := zDm ((mem _).2 (.inr (.inl rfl)))
  have k3 : Sp (eP D (fiL p (fL (v, p * B, p * p * C))) (fL (pF D))) (2 * p * B, 2 * p) := zDm ((mem _).2 (.inr (.inr (.inl rfl))))
  simp only [fL, List.mem_cons, List.not_mem_nil, or_false] at hl
  rcases hl with h | h
  ·subst h; exact zIz k1 (jO (by simp only [eK]; grind) (by simp only [eK]; grind))
  ·subst h
   refine zIz (zJe (zJe (zH9 k2 s) (zH9 k3 t)) (zH9 k1 (-(s * m)))) (jO ?_ ?_)
   ·simp only [eK, eA]
    have e1 : β = B + 2 * m := by omega
    have e2 : 1 * (s * (2 * v * β) + t * (2 * p * B) + -(s * m) * (4 * v)) = 2 * B * (s * v + t * p) := by rw [e1]; grind
    rw [e2, hst]; try omega
   ·simp only [eK, eA]
    have e2 : 1 * (s * (2 * v) + t * (2 * p) + -(s * m) * 0) = 2 * (s * v + t * p) := by grind
    rw [e2, hst]
end Go.Proofs.YtnheekadeflecaaGreat
namespace Go.Proofs.YtnheekadeflecaaGreat
structure Pd (p D : Int) : Prop where
  p2 : 2 ≤ p
  p25 : p ≤ 25
  odd : p = 2 ∨ p % 2 = 1
  D1 : -2000 ≤ p * p * D
  D0 : -2000 ≤ D
  hD : D < 0
  h4 : D % 4 ≤ 1
theorem ds_odd {p v B C D u w : Int} (hp : p % 2 = 1) (hp2 : 2 ≤ p) (huw : u * v + w * p = 1) (hd : B * B - 4 * v * C = p * p * D) : ∃ t0, 0 ≤ t0 ∧ t0 < p ∧ p ∣ 2 * v * t0 + B ∧ p * p ∣ v * t0 * t0 + B * t0 + C := by
 obtain ⟨h, hh⟩ : ∃ h, 2 * h = p + 1 := ⟨(p + 1) / 2, by omega⟩
 have t1 := Int.emod_nonneg (-(B * u * h)) (b := p) (by omega)
 have t2 := Int.emod_lt_of_pos (-(B * u * h)) (b := p) (by omega)
 have t3 := Int.emod_add_mul_ediv (-(B * u * h)) p
 generalize (-(B * u * h)) / p = k at *
 generalize hq : (-(B * u * h)) % p = t0 at *
 have d1 : 2 * v * t0 + B = p * (-(2 * v * k) - B + B * w * (p + 1)) := by
  have e1 : t0 = -(B * u * h) - p * k := by omega
  have e2 : 2 * v * (-(B * u * h) - p * k) + B = B - B * (u * v) * (2 * h) - 2 * v * p * k := by grind
  have e3 : u * v = 1 - w * p := by omega
  rw [e1, e2, hh, e3]; grind
 generalize -(2 * v * k) - B + B * w * (p + 1) = b at d1
 refine ⟨t0, t1, t2, ⟨b, d1⟩, ?_⟩
 have d2 : 4 * v * (v * t0 * t0 + B * t0 + C) = p * p * (b * b - D) := by
  have e1 : 4 * v * (v * t0 * t0 + B * t0 + C) = (2 * v * t0 + B) * (2 * v * t0 + B) - (B * B - 4 * v * C) := by grind
  rw [e1, hd, d1]; grind
 generalize v * t0 * t0 + B * t0 + C = Ct at *
 generalize b * b - D = z at *
 -- 4 * v has an inverse
 have r1 : u * h * h * (4 * v) = 1 + p * (p + 2 - w * (p + 1) * (p + 1)) := by
  have e1 : u * h * h * (4 * v) = (u * v) * ((2 * h) * (2 * h)) := by grind
  have e3 : u * v = 1 - w * p := by omega
  rw [e1, hh, e3]; grind
 generalize u * h * h = r at *
 generalize p + 2 - w * (p + 1) * (p + 1) = m at *
 refine ⟨r * (2 - r * (4 * v)) * z + m * m * Ct, ?_⟩
 have e1 : p * p * (r * (2 - r * (4 * v)) * z + m * m * Ct) = r * (2 - r * (4 * v)) * (p * p * z) + (p * m) * (p * m) * Ct := by grind
 have e2 : p * m = r * (4 * v) - 1 := by omega
 rw [e1, ← d2, e2]; grind
theorem ds_two {v B C D u w : Int} (huw : u * v + w * 2 = 1) (h4 : D % 4 ≤ 1) (hd : B * B - 4 * v * C = 2 * 2 * D) : ∃ t0, 0 ≤ t0 ∧ t0 < 2 ∧ 2 ∣ 2 * v * t0 + B ∧ 2 * 2 ∣ v * t0 * t0 + B * t0 + C := by
 have hB : ∃ b, B = 2 * b := by
  obtain ⟨t, ht | ht⟩ : ∃ t, B = 2 * t ∨ B = 2 * t + 1 := ⟨B / 2, by omega⟩
  ·exact ⟨t, ht⟩
  ·exfalso
   rw [ht, show (2 * t + 1) * (2 * t + 1) = 4 * (t * t + t) + 1 by grind, show 4 * v * C = 4 * (v * C) from Int.mul_assoc ..] at hd
   omega
 obtain ⟨b, rfl⟩ := hB
 have hd2 : b * b - v * C = D := by
  have e1 : 2 * b * (2 * b) - 4 * v * C = 4 * (b * b - v * C) := by grind
  omega
 have key : ∀ t, (b + v * t) % 2 = D % 2 → 2 * 2 ∣ v * t * t + 2 * b * t + C := by
  intro t ht
  have e1 : v * (v * t * t + 2 * b * t + C) = (b + v * t) * (b + v * t) - D := by rw [← hd2]; grind
  have e2 : ∃ k, (b + v * t) * (b + v * t) - D = 4 * k := by
   generalize b + v * t = c at *
   obtain ⟨m, hm | hm⟩ : ∃ m, c = 2 * m ∨ c = 2 * m + 1 := ⟨c / 2, by omega⟩
   ·refine ⟨m * m - D / 4, ?_⟩
    rw [hm, show 2 * m * (2 * m) = 4 * (m * m) by grind]; omega
   ·refine ⟨m * m + m - D / 4, ?_⟩
    rw [hm, show (2 * m + 1) * (2 * m + 1) = 4 * (m * m + m) + 1 by grind]; omega
  obtain ⟨k, hk⟩ := e2
  rw [hk] at e1
  generalize v * t * t + 2 * b * t + C = Ct at *
  have e3 : Ct = (u * v + w * 2) * (u * v + w * 2) * Ct := by rw [huw]; omega
  have e4 : (u * v + w * 2) * (u * v + w * 2) * Ct = u * u * v * (v * Ct) + 4 * u * w * (v * Ct) + 4 * (w * w * Ct) := by grind
  have e5 := e3.trans e4
  rw [e1] at e5
  exact ⟨u * u * v * k + 4 * u * w * k + w * w * Ct, e5.trans (by grind)⟩
 have hv : v % 2 = 1 := by
  rcases (by omega : v % 2 = 0 ∨ v % 2 = 1) with h | h
  ·exfalso
   have : u * v = 2 * (u * (v / 2)) := by
    have e : v = 2 * (v / 2) := by omega
    calc u * v = u * (2 * (v / 2)) := by rw [← e]
     _ = 2 * (u * (v / 2)) := by grind
   omega
  ·exact h
 by_cases h : b % 2 = D % 2
 ·exact ⟨0, by omega, by omega, ⟨b, by omega⟩, key 0 (by rw [Int.mul_zero, Int.add_zero]; exact h)⟩
 ·exact ⟨1, by omega, by omega, ⟨v + b, by omega⟩, key 1 (by rw [Int.mul_one]; omega)⟩
theorem ds_ex {p v B C D u w : Int} (hP : Pd p D) (huw : u * v + w * p = 1) (hd : B * B - 4 * v * C = p * p * D) : ∃ t0, 0 ≤ t0 ∧ t0 < p ∧ p ∣ 2 * v * t0 + B ∧ p * p ∣ v * t0 * t0 + B * t0 + C := by
 rcases hP.odd with h | h
 ·subst h; exact ds_two huw hP.h4 hd
 ·exact ds_odd h hP.p2 huw hd
theorem ds_cond {p x y : Int} (hp : 2 ≤ p) (hp2 : p ≤ 25) : (bif (!eqI (Int.tmod x p) 0) then some true else ((nz (w64 (p * p))).bind fun z15 => some (!eqI (Int.tmod y (w64 (p * p))) 0))) = some (!(decide (p ∣ x) && decide (p * p ∣ y))) := by
 have m1 : p * p ≤ 25 * 25 := Int.mul_le_mul hp2 hp2 (by omega) (by omega)
 have m2 : 2 * 2 ≤ p * p := Int.mul_le_mul hp hp (by omega) (by omega)
 rw [zW (n := p * p) (by omega), zEY (show p * p ≠ 0 by omega), tz (show p ≠ 0 by omega), Option.bind_some, tz (show p * p ≠ 0 by omega)]
 cases decide (p ∣ x) <;> cases decide (p * p ∣ y) <;> rfl
theorem ds_run {p v B C t0 : Int} {y3 : F3 × M4} {n : M4} (hp : 2 ≤ p) (hp2 : p ≤ 25) (hv : v.natAbs ≤ 10000) (hB : B.natAbs ≤ 20000) (hC : C.natAbs ≤ 20000) (h0 : t0 < p) (hok : p ∣ 2 * v * t0 + B ∧ p * p ∣ v * t0 * t0 + B * t0 + C) :
    ∀ (k fu fs : Nat) (t : Int), 0 ≤ t → t ≤ t0 → (t0 - t).toNat ≤ k → k < fu → k < fs → ∃ t1, t ≤ t1 ∧ t1 ≤ t0 ∧ (p ∣ 2 * v * t1 + B ∧ p * p ∣ v * t1 * t1 + B * t1 + C) ∧
      zAp p y3 ((v, B, C), n) (1, 0, 0, 1) fu t v (2 * v * t + B) (v * t * t + B * t + C) = some (t1, v, 2 * v * t1 + B, v * t1 * t1 + B * t1 + C) ∧
      ∀ y6, zAJ p ((v, B, C), n) y6 fs t = ((nz p).bind fun z19 =>
            (nz (w64 (p * p))).bind fun z20 =>
            (jY ((v, w64 (Int.tdiv (2 * v * t1 + B) p), w64 (Int.tdiv (v * t1 * t1 + B * t1 + C) (w64 (p * p)))))).bind fun y21 =>
            (zBb t1).bind fun y22 =>
            (jB y6 y22).bind fun y23 =>
            (zA3 y21.2).bind fun y24 =>
            (jB y24 ((1, 0, 0, p))).bind fun y25 =>
            (zA3 y23).bind fun y26 =>
            (jB y25 y26).bind fun y27 =>
            some (.inr (((y21.1, y27)))))
  | k, 0, fs, t, _, _, _, hf, _ => by omega
  | k, fu + 1, 0, t, _, _, _, _, hf => by omega
  | k, fu + 1, fs + 1, t, g1, g2, g3, g4, g5 => by
    have hact : ∀ s : Int, s.natAbs ≤ 1000 → zQ (v, B, C) (1, s, 0, 1) = some (v, 2 * v * s + B, v * s * s + B * s + C) := fun s hs => zGL (by omega) (by omega) (by omega) (by omega)
    have hsh : zBb t = some (1, t, 0, 1) := rfl
    rw [zAp]
    have spec_unf : ∀ y6, zAJ p ((v, B, C), n) y6 (fs + 1) t = (bif (!(decide (p ∣ 2 * v * t + B) && decide (p * p ∣ v * t * t + B * t + C))) then zAJ p ((v, B, C), n) y6 fs (t + 1) else ((nz p).bind fun z19 =>
            (nz (w64 (p * p))).bind fun z20 =>
            (jY ((v, w64 (Int.tdiv (2 * v * t + B) p), w64 (Int.tdiv (v * t * t + B * t + C) (w64 (p * p)))))).bind fun y21 =>
            (zBb t).bind fun y22 =>
            (jB y6 y22).bind fun y23 =>
            (zA3 y21.2).bind fun y24 =>
            (jB y24 ((1, 0, 0, p))).bind fun y25 =>
            (zA3 y23).bind fun y26 =>
            (jB y25 y26).bind fun y27 =>
            some (.inr (((y21.1, y27)))))) := by
      intro y6
      rw [zAJ, jN, decide_eq_true (show t < p by omega), cond_true, hsh, Option.bind_some, dsc_act]
      simp only []
      rw [hact t (by omega), Option.bind_some, zEY (show p ≠ 0 by omega), Option.bind_some]
      simp only []
      rw [ds_cond hp hp2, Option.bind_some]
      simp only [qM]
      rw [zW (n := t + 1) (by omega)]
    by_cases hc : p ∣ 2 * v * t + B ∧ p * p ∣ v * t * t + B * t + C
    · refine ⟨t, Int.le_refl _, g2, hc, ?_, fun y6 => ?_⟩
      · rw [zEY (show p ≠ 0 by omega), Option.bind_some, ds_cond hp hp2, decide_eq_true hc.1, decide_eq_true hc.2]
        rfl
      · rw [spec_unf, decide_eq_true hc.1, decide_eq_true hc.2]
        rfl
    · have hne : t ≠ t0 := fun e => hc (e ▸ hok)
      have hb : (!(decide (p ∣ 2 * v * t + B) && decide (p * p ∣ v * t * t + B * t + C))) = true := by
        by_cases e1 : p ∣ 2 * v * t + B
        · by_cases e2 : p * p ∣ v * t * t + B * t + C
          · exact absurd ⟨e1, e2⟩ hc
          · rw [decide_eq_false e2]; cases decide (p ∣ 2 * v * t + B) <;> rfl
        · rw [decide_eq_false e1]; rfl
      obtain ⟨k', rfl⟩ : ∃ k', k = k' + 1 := ⟨k - 1, by omega⟩
      obtain ⟨t1, j1, j2, j3, j4, j5⟩ := ds_run (y3 := y3) (n := n) hp hp2 hv hB hC h0 hok k' fu fs (t + 1) (by omega) (by omega) (by omega) (by omega) (by omega)
      refine ⟨t1, by omega, j2, j3, ?_, fun y6 => ?_⟩
      · rw [zEY (show p ≠ 0 by omega), Option.bind_some, ds_cond hp hp2, hb, Option.bind_some, cond_true]
        simp only [qM]
        rw [zW (n := t + 1) (by omega), hact (t + 1) (by omega), Option.bind_some]
        exact j4
      · rw [spec_unf, hb, cond_true]
        exact j5 y6
end Go.Proofs.YtnheekadeflecaaGreat
namespace Go.Proofs.YtnheekadeflecaaGreat
theorem ww (a : Int) : w64 (w64 a) = w64 a := zDF (zFm a)
theorem ds_bnd {p v B C t b c : Int} (hp : 2 ≤ p) (hp2 : p ≤ 25) (hv : 1 ≤ v) (hv2 : v ≤ 10000) (hB : B.natAbs ≤ 20000) (hC : C.natAbs ≤ 20000) (t0 : 0 ≤ t) (t1 : t < p) (hb : 2 * v * t + B = p * b) (hc : v * t * t + B * t + C = p * p * c) : b.natAbs ≤ 60000 ∧ c ≤ 60000 := by
 have m1 : 2 * v * t ≤ 2 * 10000 * p := Int.mul_le_mul (by omega) (by omega) t0 (by omega)
 have m0 : 0 ≤ 2 * v * t := Int.mul_nonneg (by omega) t0
 constructor
 ·have u1 : b ≤ 60000 := by
   rcases Int.lt_or_le 60000 b with h | h
   ·have : p * 60001 ≤ p * b := Int.mul_le_mul_of_nonneg_left (by omega) (by omega)
    omega
   ·exact h
  have u2 : -60000 ≤ b := by
   rcases Int.lt_or_le b (-60000) with h | h
   ·have : p * b ≤ p * (-60001) := Int.mul_le_mul_of_nonneg_left (by omega) (by omega)
    omega
   ·exact h
  omega
 ·have m2 : v * t ≤ 10000 * p := Int.mul_le_mul hv2 (by omega) t0 (by omega)
  have m3 : v * t * t ≤ 10000 * p * p := Int.mul_le_mul m2 (by omega) t0 (by omega)
  have m4 : (B * t).natAbs ≤ 20000 * 25 := qG hB (by omega)
  have m6 : B * t ≤ 20000 * p := by
   rcases Int.le_total 0 B with h | h
   ·exact Int.mul_le_mul (by omega) (by omega) t0 (by omega)
   ·have : B * t ≤ 0 := Int.mul_nonpos_of_nonpos_of_nonneg h t0
    omega
  have m5 : p * 2 ≤ p * p := Int.mul_le_mul_of_nonneg_left hp (by omega)
  have e1 : 10000 * p * p = 10000 * (p * p) := Int.mul_assoc ..
  rcases Int.lt_or_le 60000 c with h | h
  ·have : p * p * 60001 ≤ p * p * c := Int.mul_le_mul_of_nonneg_left (by omega) (by omega)
   omega
  ·exact h
structure Dsc (p D : Int) (f g : F3) (n1 n2 n3 n4 : Int) : Prop where
  i : zBe f p = some (g, (w64 n1, w64 n2, w64 n3, w64 n4))
  s : zCC f p = some (g, (w64 n1, w64 n2, w64 n3, w64 n4))
  prc : PrRc D g
  val : ∀ X Y, FV g (n1 * X + n2 * Y) (n3 * X + n4 * Y) = FV f X Y
  det : n1 * n4 - n2 * n3 = p
  cls : ∀ (hp : 2 ≤ p) (hD : D < 0), gC D hD g = gDn hp hD (gC (p * p * D) (zCO hp hD) f)
theorem dsc_mk {p D : Int} (hP : Pd p D) {f : F3} (hf : CF (p * p * D) f) : ∃ g n1 n2 n3 n4, Dsc p D f g n1 n2 n3 n4 := by
 have hF := FUge
 have hp := hP.p2
 have hp2 := hP.p25
 have hDp := zCO hP.p2 hP.hD
 obtain ⟨⟨A0, B0, C0⟩, m1, m2, m3, m4, i1, i2, i3, i4, i5, i6, i7, i8, i9, i10⟩ := red_cf hf
 obtain ⟨rb, ra⟩ := prr_rb hP.D1 i3
 obtain ⟨g1, g2, g3, g4⟩ := i3
 simp only [] at rb ra g1 g2 g3 g4 i5
 obtain ⟨⟨x, y⟩, p1, p2, p3, p4⟩ := point_both rb (show 1 ≤ p by omega) hp2 g4
 simp only [] at p3 p4
 have hxy : x ≠ 0 ∨ y ≠ 0 := by
  simp only [ptL, List.mem_cons, Prod.mk.injEq, List.not_mem_nil, or_false] at p3
  omega
 obtain ⟨⟨u1, u2⟩, u3⟩ := g2
 have hv1 : 1 ≤ Vl A0 B0 C0 x y := by
  have := uq_a g1 (show -A0 ≤ B0 by omega) u2 (show A0 ≤ C0 by omega) hxy
  unfold Vl
  omega
 obtain ⟨q, s, B, C, c1, c2, em, t1, t2, v2, qb, sb, x1, x2, y1, y2⟩ := complete_both rb g3 hP.D1 (by omega) p3 rfl hv1
 generalize he : Vl A0 B0 C0 x y = v at *
 have hh : B * B - 4 * v * C = p * p * D := by rw [cmp_dis em, g3]
 obtain ⟨bb, cb⟩ := cmp_c hv1 v2 hP.D1 (by omega) t1 t2 hh
 obtain ⟨u, w, huw⟩ := bez_int v p
 rw [p4] at huw
 obtain ⟨t0, e1, e2, e3⟩ := ds_ex hP huw hh
 obtain ⟨t, j1, j2, ⟨⟨b, hb⟩, ⟨c, hc⟩⟩, j4, j5⟩ := ds_run (p := p) (v := v) (B := B) (C := C) (t0 := t0) (y3 := ((A0, B0, C0), (m1, m2, m3, m4))) (n := (x, q, y, s)) hp hp2 (by omega) (by omega) (by omega) e2 e3 t0.toNat FU FU 0 (by omega) e1 (by omega) (by omega) (by omega)
 obtain ⟨bb1, bc1⟩ := ds_bnd hp hp2 hv1 v2 (by omega) cb (by omega) (by omega) hb hc
 have hpp : 0 < p * p := Int.mul_pos (by omega) (by omega)
 have hpp2 : p * p ≤ 25 * 25 := Int.mul_le_mul hp2 hp2 (by omega) (by omega)
 -- the matrix of the whole
 have W := (mat_mul i5 em).norm t
 rw [hb, hc] at W
 generalize hw1 : m1 * x + m2 * y = w1 at *
 generalize hw2 : w1 * t + (m1 * q + m2 * s) = w2 at *
 generalize hw3 : m3 * x + m4 * y = w3 at *
 generalize hw4 : w3 * t + (m3 * q + m4 * s) = w4 at *
 have hdis : b * b - 4 * v * c = D := by
  have h1 := cmp_dis W
  rw [hf.1.dis] at h1
  have h2 : p * b * (p * b) - 4 * v * (p * p * c) = p * p * (b * b - 4 * v * c) := by grind
  rw [h2] at h1
  exact Int.eq_of_mul_eq_mul_left (by omega) h1
 have hc1 : 1 ≤ c := by
  have hbb : 0 ≤ b * b := zEL b
  have hD := hP.hD
  rcases Int.lt_or_le 0 c with h | h
  ·exact h
  ·have : 4 * v * c ≤ 4 * v * 0 := Int.mul_le_mul_of_nonneg_left h (by omega)
   omega
 have E1 : Eqf (v, p * b, p * p * c) f := ⟨w1, w2, w3, w4, W.dt, W.e1.symm, W.e2.symm, W.e3.symm⟩
 have P1 := zIQ E1 (con_one hf.1)
 have hcf : CF D (v, b, c) := by
  refine ⟨⟨hv1, by simp only []; omega, by simp only []; omega, by simp only []; omega, hc1, by simp only []; omega, hdis, hP.hD, .inr (by simp only []; omega), fun k => ?_⟩, by simp only []; omega⟩
  constructor
  ·rintro ⟨z1, z2, z3⟩
   exact P1 k z1 (Int.dvd_trans z2 ⟨p, Int.mul_comm ..⟩) (Int.dvd_trans z3 ⟨p * p, Int.mul_comm ..⟩)
  ·intro z
   exact ⟨Int.dvd_trans z (Int.one_dvd _), Int.dvd_trans z (Int.one_dvd _), Int.dvd_trans z (Int.one_dvd _)⟩
 obtain ⟨g, l1, l2, l3, l4, k1, k2, k3, k4, k5, k6, k7, k8, k9, k10⟩ := red_cf hcf
 simp only [] at k5
 have wpp : w64 (p * p) = p * p := zW (by omega)
 have hlow : (v, w64 (Int.tdiv (2 * v * t + B) p), w64 (Int.tdiv (v * t * t + B * t + C) (w64 (p * p)))) = (v, b, c) := by
  rw [wpp, tdv (a := 2 * v * t + B) (b := p) (c := b) (by omega) hb.symm, tdv (a := v * t * t + B * t + C) (b := p * p) (c := c) (by omega) hc.symm, zW (n := b) (by omega), zW (n := c) (by omega)]
 have z1 : ∀ a b c : Int, w64 (w64 a * c + w64 b) = w64 (a * c + b) := fun a b c => zDF (by simp only [zHx, zHw, zFm])
 have z2 : ∀ a b c d : Int, w64 (w64 a * w64 b + w64 c * w64 d) = w64 (a * b + c * d) := fun a b c d => zDF (by simp only [zHx, zHw, zFm])
 have z3 : ∀ a c : Int, w64 (w64 a * c) = w64 (a * c) := fun a c => zDF (by simp only [zHw, zFm])
 have mn : qB (m1, m2, m3, m4) (x, q, y, s) = some (w64 w1, w64 (m1 * q + m2 * s), w64 w3, w64 (m3 * q + m4 * s)) := by rw [zJ1, hw1, hw3]
 have mnt : qB (w64 w1, w64 (m1 * q + m2 * s), w64 w3, w64 (m3 * q + m4 * s)) (1, t, 0, 1) = some (w64 w1, w64 w2, w64 w3, w64 w4) := by
  rw [zJ1]
  simp only [Int.mul_one, Int.mul_zero, Int.add_zero, z1, ww, hw2, hw4]
 have inv1 := inv_e k5.dt
 have inv2 : q9 (w64 w1, w64 w2, w64 w3, w64 w4) = some (w64 w4, w64 (-w2), w64 (-w3), w64 w1) := inv_w W.dt
 have ld : qB (w64 l4, w64 (-l2), w64 (-l3), w64 l1) (1, 0, 0, p) = some (w64 l4, w64 (-l2 * p), w64 (-l3), w64 (l1 * p)) := by
  rw [zJ1]
  simp only [Int.mul_one, Int.mul_zero, Int.add_zero, Int.zero_add, z3, ww]
 have fin : qB (w64 l4, w64 (-l2 * p), w64 (-l3), w64 (l1 * p)) (w64 w4, w64 (-w2), w64 (-w3), w64 w1) = some (w64 (l4 * w4 + -l2 * p * -w3), w64 (l4 * -w2 + -l2 * p * w1), w64 (-l3 * w4 + l1 * p * -w3), w64 (-l3 * -w2 + l1 * p * w1)) := by
  rw [zJ1]
  simp only [z2]
 refine ⟨g, l4 * w4 + -l2 * p * -w3, l4 * -w2 + -l2 * p * w1, -l3 * w4 + l1 * p * -w3, -l3 * -w2 + l1 * p * w1, ⟨?_, ?_, k3, fun X Y => ?_, ?_, fun hp' hD' => ?_⟩⟩
 ·unfold zBe
  rw [i1, Option.bind_some]
  simp only []
  rw [p1, Option.bind_some]
  simp only []
  rw [c1, Option.bind_some]
  simp only [zCv, Option.bind_some]
  have j4' : zAp p ((A0, B0, C0), (m1, m2, m3, m4)) ((v, B, C), (x, q, y, s)) (1, 0, 0, 1) FU 0 v B C = some (t, v, 2 * v * t + B, v * t * t + B * t + C) := by
   have e : 2 * v * 0 + B = B := by omega
   have e' : v * 0 * 0 + B * 0 + C = C := by simp
   rw [e, e'] at j4
   exact j4
  rw [j4', Option.bind_some]
  simp only []
  rw [zEY (show p ≠ 0 by omega), Option.bind_some, wpp, zEY (show p * p ≠ 0 by omega), Option.bind_some]
  rw [wpp] at hlow
  rw [hlow, k1, Option.bind_some]
  simp only []
  rw [mn, Option.bind_some, mnt, Option.bind_some, inv1, Option.bind_some, ld, Option.bind_some, inv2, Option.bind_some, fin, Option.bind_some]
 ·unfold zCC
  rw [i2, Option.bind_some]
  simp only []
  rw [p2, Option.bind_some]
  simp only []
  rw [c2, Option.bind_some]
  simp only []
  rw [dsc_mul, mn, Option.bind_some, j5, zEY (show p ≠ 0 by omega), Option.bind_some]
  rw [wpp] at hlow ⊢
  rw [zEY (show p * p ≠ 0 by omega), Option.bind_some, hlow, k2, Option.bind_some]
  simp only [zBb, Option.bind_some]
  rw [dsc_mul, dsc_inv, mnt, Option.bind_some, inv1, Option.bind_some, ld, Option.bind_some, inv2, Option.bind_some, fin, Option.bind_some, Option.bind_some]
 ·have h1 := zJ6 k5 (l4 * (w4 * X - w2 * Y) - l2 * (p * (-(w3 * X) + w1 * Y))) (-(l3 * (w4 * X - w2 * Y)) + l1 * (p * (-(w3 * X) + w1 * Y)))
  obtain ⟨v1, v2⟩ := inv_undo k5.dt (w4 * X - w2 * Y) (p * (-(w3 * X) + w1 * Y))
  rw [v1, v2] at h1
  have h2 := zJ6 W (w4 * X - w2 * Y) (-(w3 * X) + w1 * Y)
  obtain ⟨v3, v4⟩ := inv_undo W.dt X Y
  rw [v3, v4] at h2
  have e1 : (l4 * w4 + -l2 * p * -w3) * X + (l4 * -w2 + -l2 * p * w1) * Y = l4 * (w4 * X - w2 * Y) - l2 * (p * (-(w3 * X) + w1 * Y)) := by grind
  have e2 : (-l3 * w4 + l1 * p * -w3) * X + (-l3 * -w2 + l1 * p * w1) * Y = -(l3 * (w4 * X - w2 * Y)) + l1 * (p * (-(w3 * X) + w1 * Y)) := by grind
  rw [e1, e2]
  refine Eq.trans h1 (Eq.trans ?_ h2)
  simp only [FV]
  grind
 ·have : (l4 * w4 + -l2 * p * -w3) * (-l3 * -w2 + l1 * p * w1) - (l4 * -w2 + -l2 * p * w1) * (-l3 * w4 + l1 * p * -w3) = p * ((l1 * l4 - l2 * l3) * (w1 * w4 - w2 * w3)) := by grind
  rw [this, k5.dt, W.dt]; omega
 ·have hfp := cf_pos hf
  have e1 : gC D hD' g = gC D hD' (v, b, c) := zKD.2 (cl_red (cf_pos hcf) (cf_disc hcf) k4 (prc_pos k3))
  have e2 : gC (p * p * D) (zCO hp' hD') (v, p * b, p * p * c) = gC (p * p * D) (zCO hp' hD') f := zKD.2 (cl_red hfp (cf_disc hf) E1 (by show 0 < v; omega))
  rw [e1, ← e2]
  exact (gDn_low hp' hP.D0 hD' (by omega) hdis huw).symm
theorem zHN {d a : Int} (ha1 : 1 ≤ a) (ha : a ≤ 1000) (hd1 : -2000 ≤ d) (hd2 : d ≤ -3) : ∀ (m fu : Nat) (b : Int) (acc : List (Int × Int × Int)), b + m = a + 1 → -1000 ≤ b → m < fu → acc.length + m ≤ 100000000 →
  jG a d fu b acc = some (acc ++ rowR d a m b)
 | m, 0, b, acc, _, _, h, _ => by omega
 | 0, fu + 1, b, acc, hb, hb0, hf, hl => by
  rw [jG, zAN, decide_eq_false (by omega), cond_false]
  simp [rowR, upz]
 | m + 1, fu + 1, b, acc, hb, hb0, hf, hl => by
  rw [jG, zAN, decide_eq_true (by omega), cond_true]
  have b1 := qG (x := b) (y := b) (A := 1000) (B := 1000) (by omega) (by omega)
  have e4 : w64 (4 * a) = 4 * a := zW (by omega)
  have e5 : w64 (w64 (b * b) - d) = b * b - d := by rw [jQ (n := b * b) (by omega), jQ (by omega)]
  have q1 := tdiv_le (x := b * b - d) (m := 4 * a) (by omega)
  have q2 := Int.tmod_add_mul_tdiv (b * b - d) (4 * a)
  generalize hc : Int.tdiv (b * b - d) (4 * a) = c at q1 q2
  generalize hr : Int.tmod (b * b - d) (4 * a) = r at q2
  have ew : w64 (b + 1) = b + 1 := zW (by omega)
  have hcf : cfR d a b = (a, b, c) := by unfold cfR; rw [hc]
  have hrow : rowR d a (m + 1) b = (if okR d (a, b, c) then [(a, b, c)] else []) ++ rowR d a m (b + 1) := by
   unfold rowR
   rw [upz, List.map_cons, List.filter_cons, hcf]
   cases okR d (a, b, c) <;> simp
  have hdis : eqI (b * b - 4 * a * c) d = eqI r 0 := by
   rw [zDO, zDO, Bool.eq_iff_iff, beq_iff_eq, beq_iff_eq]
   omega
  rw [e4, nzOk (by omega), e5, hr, hc, jQ (n := c) (by omega), hrow]
  simp only [Option.bind_some, qM, zFg ha1 (show a ≤ 1000000 by omega), ew]
  unfold okR
  dsimp only
  rw [hdis]
  cases h1 : eqI r 0 with
  | true =>
   simp only [Bool.not_true, cond_false, Bool.true_and]
   cases h2 : decide (zBA a b c) with
   | true =>
    rw [cond_true, zIr (by simp; omega)]
    simp only [Option.bind_some]
    rw [zHN ha1 ha hd1 hd2 m fu (b + 1) _ (by omega) (by omega) (by omega) (by simp; omega)]
    simp
   | false =>
    rw [cond_false]
    rw [zHN ha1 ha hd1 hd2 m fu (b + 1) _ (by omega) (by omega) (by omega) (by omega)]
    simp
  | false =>
   simp only [Bool.not_false, cond_true, Bool.false_and]
   rw [zHN ha1 ha hd1 hd2 m fu (b + 1) _ (by omega) (by omega) (by omega) (by omega)]
   simp
theorem iall_eq {d : Int} (hd1 : -2000 ≤ d) (hd2 : d ≤ -3) : ∀ (m fu : Nat) (a : Int) (acc : List (Int × Int × Int)), 1 ≤ a → a + m = 27 → (acc.length : Int) ≤ 1000 * a → zAX d fu a acc = zBQ d fu a acc
 | m, 0, a, acc, _, _, _ => rfl
 | m, fu + 1, a, acc, ha, hm, hl => by
  have b1 := qG (x := 3 * a) (y := a) (A := 81) (B := 27) (by omega) (by omega)
  have e1 : w64 (w64 (3 * a) * a) = 3 * a * a := by rw [zW (n := 3 * a) (by omega), jQ (by omega)]
  have e2 : w64 (0 - d) = -d := by rw [zW (by omega)]; omega
  rw [zBQ, zAX, e1, e2, zAN]
  by_cases h : 3 * a * a ≤ -d
  ·have ha2 : a ≤ 26 := by
    rcases Int.lt_or_le 26 a with h2 | h2
    ·have h3 := zF1 (a := 27) (b := a) (by omega) (by omega)
     have e : 3 * a * a = 3 * (a * a) := by grind
     omega
    ·exact h2
   obtain ⟨m', rfl⟩ : ∃ m', m = m' + 1 := ⟨m - 1, by omega⟩
   have hF := FUge
   rw [decide_eq_true h, cond_true, cond_true, zW (n := 1 - a) (by omega), zW (n := a + 1) (by omega)]
   simp only [qM]
   rw [zGm ha (by omega) hd1 hd2 (2 * a).toNat FU (1 - a) acc (by omega) (by omega) (by omega) (by omega), zHN ha (by omega) hd1 hd2 (2 * a).toNat FU (1 - a) acc (by omega) (by omega) (by omega) (by omega)]
   simp only [Option.bind_some]
   have hrl : (rowR d a (2 * a).toNat (1 - a)).length ≤ (2 * a).toNat := by
    unfold rowR
    refine Nat.le_trans (List.length_filter_le _ _) ?_
    rw [List.length_map, upz_len]
    exact Nat.le_refl _
   exact iall_eq hd1 hd2 m' fu (a + 1) _ (by omega) (by omega) (by rw [List.length_append]; omega)
  ·rw [decide_eq_false h, cond_false, cond_false]
theorem zKB {l : List (Int × Int × Int)} (hb : ∀ f ∈ l, inN f.1 = true ∧ inN f.2.1 = true ∧ inN f.2.2 = true) : ∀ (fu k : Nat) (acc : List (Int × Int × Int)), k ≤ 1000000 → l.length ≤ 1000000 → zAM l fu (k : Int) acc = zAG l fu (k : Int) acc
 | 0, k, acc, _, _ => rfl
 | fu + 1, k, acc, hk, hl => by
  rw [zAM, zAG]
  by_cases h : k < l.length
  ·obtain ⟨c1, c2, c3⟩ := hb (l[k]) (List.getElem_mem h)
   have e1 : jX l[k] = some (Int.gcd l[k].1 (Int.gcd l[k].2.1 l[k].2.2) : Int) := zEN c1 c2 c3
   have e2 : zAH l[k] = some (Int.gcd l[k].1 (Int.gcd l[k].2.1 l[k].2.2) : Int) := zHz c1 c2 c3
   rw [zEv h]
   simp only [Option.bind_some, e1, e2, qM, zFn (show k < 1000000000 by omega)]
   rw [zKB hb fu (k + 1) _ (by omega) hl, zKB hb fu (k + 1) _ (by omega) hl]
  ·rw [jN, decide_eq_false (by omega), cond_false, cond_false]
theorem zIy {d : Int} (hd1 : -2000 ≤ d) (hd2 : d ≤ -3) : zBP d = zAA d := by
 have hF := FUge
 obtain ⟨L, k1, k2, k3, asq, k4, k5, k6⟩ := zIf hd1 hd2 26 FU 1 [] (by omega) (by omega) (by omega) (by simp)
 rw [List.nil_append] at k1
 have h1 : zAX d FU 1 [] = some L := by rw [iall_eq hd1 hd2 26 FU 1 [] (by omega) (by omega) (by simp), k1]
 have hmem : ∀ f ∈ L, 1 ≤ f.1 ∧ zBA f.1 f.2.1 f.2.2 ∧ f.2.1 * f.2.1 - 4 * f.1 * f.2.2 = d := fun f hf => (zJ3 hd1 hd2).1 ((k3 f).1 hf)
 have hbd : ∀ f ∈ L, inN f.1 = true ∧ inN f.2.1 = true ∧ inN f.2.2 = true := by
  intro f hf
  obtain ⟨h1, h2, h3⟩ := hmem f hf
  have h4 := red_sq h1 h2 h3
  obtain ⟨⟨h5, h6⟩, h7⟩ := h2
  have ha : f.1 ≤ 26 := by
   rcases Int.lt_or_le 26 f.1 with h8 | h8
   ·have := zF1 (a := 27) (b := f.1) (by omega) (by omega)
    have e : 3 * f.1 * f.1 = 3 * (f.1 * f.1) := by grind
    omega
   ·exact h8
  have hb := qG (x := f.2.1) (y := f.2.1) (A := 26) (B := 26) (by omega) (by omega)
  have hc : f.2.2 ≤ 1000 := by
   have h9 : 4 * 1 * f.2.2 ≤ 4 * f.1 * f.2.2 := by
    have : 4 * 1 * f.2.2 ≤ (4 * f.1) * f.2.2 := Int.mul_le_mul_of_nonneg_right (by omega) (by omega)
    exact this
   omega
  rw [zAf, zAf, zAf]
  omega
 have e0 : (((0 : Nat) : Int)) = 0 := rfl
 have h2 := zKB hbd FU 0 [] (by omega) (by omega)
 rw [e0] at h2
 simp only [zBP, zDS, zCu, zAA, zDf, h1, k1, Option.bind_some, h2]
 cases zAG L FU 0 [] <;> rfl
theorem red_any {D a b c : Int} (a1 : 1 ≤ a) (aM : a ≤ 1000000) (b1 : -1900000 ≤ b) (b2 : b ≤ 1900000) (c1 : 1 ≤ c) (cM : c ≤ 1000000) (hd : b * b - 4 * a * c = D) (hD : D < 0) : ∃ g m1 m2 m3 m4, jI (a, b, c) = some (g, (m1, m2, m3, m4)) ∧ jY (a, b, c) = some (g, (m1, m2, m3, m4)) ∧ 1 ≤ g.1 ∧ zBA g.1 g.2.1 g.2.2 ∧ g.2.1 * g.2.1 - 4 * g.1 * g.2.2 = D ∧ Eqf g (a, b, c) ∧ m1.natAbs ≤ 2000 ∧ m2.natAbs ≤ 2000 ∧ m3.natAbs ≤ 2000 ∧ m4.natAbs ≤ 2000 ∧ g.1 ≤ 1000000 ∧ g.2.1.natAbs ≤ 1900000 ∧ 1 ≤ g.2.2 ∧ g.2.2 ≤ 1250000 := by
 have hi : RedInv a b c (b * b - 4 * a * c) (Int.gcd a (Int.gcd b c) : Int) := by
  refine ⟨a1, aM, b1, b2, c1, by omega, rfl, by rw [hd]; exact hD, .inr cM, fun k => ?_⟩
  constructor
  ·rintro ⟨u1, u2, u3⟩
   exact Int.dvd_coe_gcd u1 (Int.dvd_coe_gcd u2 u3)
  ·intro h
   exact ⟨Int.dvd_trans h (Int.gcd_dvd_left _ _), Int.dvd_trans h (Int.dvd_trans (Int.gcd_dvd_right _ _) (Int.gcd_dvd_left _ _)), Int.dvd_trans h (Int.dvd_trans (Int.gcd_dvd_right _ _) (Int.gcd_dvd_right _ _))⟩
 obtain ⟨m1, m2, m3, m4, a2, b2', c2, k1, k2, k3, k4, k5, k6, k7, k8, k9⟩ := red_full hi cM
 obtain ⟨e1, e2, e3, e4⟩ := k5
 exact ⟨(a2, b2', c2), m1, m2, m3, m4, k1, k2, k3.a1, k4, by rw [← hd]; exact k3.dis, ⟨m1, m2, m3, m4, e4, e1.symm, e2.symm, e3.symm⟩, k6, k7, k8, k9, k3.aM, by have := k3.b1; have := k3.b2; show b2'.natAbs ≤ 1900000; omega, k3.c1, k3.cM⟩
theorem zKH {f g : F3} (h : Eqf f g) : Eqf g f := by
 obtain ⟨p, q, r, s, hdet, e1, e2, e3⟩ := h
 have back : ∀ A B C : Int, (A * p * p + B * p * r + C * r * r) * s * s + (2 * A * p * q + B * (p * s + q * r) + 2 * C * r * s) * s * -r + (A * q * q + B * q * s + C * s * s) * -r * -r = A * ((p * s - q * r) * (p * s - q * r)) := by intro A B C; grind
 have back2 : ∀ A B C : Int, (A * p * p + B * p * r + C * r * r) * -q * -q + (2 * A * p * q + B * (p * s + q * r) + 2 * C * r * s) * -q * p + (A * q * q + B * q * s + C * s * s) * p * p = C * ((p * s - q * r) * (p * s - q * r)) := by intro A B C; grind
 have back3 : ∀ A B C : Int, 2 * (A * p * p + B * p * r + C * r * r) * s * -q + (2 * A * p * q + B * (p * s + q * r) + 2 * C * r * s) * (s * p + -q * -r) + 2 * (A * q * q + B * q * s + C * s * s) * -r * p = B * ((p * s - q * r) * (p * s - q * r)) := by intro A B C; grind
 have b1 := back g.1 g.2.1 g.2.2
 have b2 := back2 g.1 g.2.1 g.2.2
 have b3 := back3 g.1 g.2.1 g.2.2
 rw [← e1, ← e2, ← e3, hdet] at b1 b2 b3
 refine ⟨s, -q, -r, p, by grind, by omega, by omega, by omega⟩
theorem red_same {f g f' g' : F3} (hf : 1 ≤ f'.1 ∧ zBA f'.1 f'.2.1 f'.2.2) (hg : 1 ≤ g'.1 ∧ zBA g'.1 g'.2.1 g'.2.2) (h1 : Eqf f' f) (h2 : Eqf g' g) (h : Eqf f g) (pf : 0 < f.1) (pg : 0 < g.1) (hD : fD g < 0) : f' = g' := by
 have d1 := zIX h1
 have d2 := zIX h2
 have d3 := zIX h
 have c1 := zEO (show 0 < f'.1 by omega) pf h1
 have c2 := zEO (show 0 < g'.1 by omega) pg h2
 have c3 := zEO pf pg h
 rw [d3] at c1
 have c4 : Cl (fD g) (fL f') (fL g') := zKO hD c1 (zKO hD c3 (cl_symm c2))
 obtain ⟨p, q, r, s, hdet, e1, e2, e3⟩ := eqf_of_cl (show 0 < f'.1 by omega) (show 0 < g'.1 by omega) (by rw [d2]; exact hD) (by rw [d1, d2, d3]) (by rw [d2]; exact c4)
 obtain ⟨k1, k2, k3⟩ := red_uniq hg.1 hg.2 hf.1 hf.2 hdet e1 e2 e3
 exact Prod.ext k1.symm (Prod.ext k2.symm k3.symm)
theorem red_stay {a b c : Int} (ha : 1 ≤ a) (haM : a ≤ 1000000) (h : zBA a b c) : qK (a, b, c) = some (a, b, c) := by
 have e : jI (a, b, c) = some ((a, b, c), (1, 0, 0, 1)) := by
  unfold jI
  simp only [zCv, Option.bind_some]
  rw [show FU = (FU - 1) + 1 from rfl, zAQ, zFg ha haM, decide_eq_true h]
  rfl
 simp only [qK, e, Option.bind_some]
structure Rr (a b c D : Int) : Prop where
  a1 : 1 ≤ a
  a2 : a ≤ 25
  b1 : -a ≤ b
  b2 : b ≤ a
  c1 : 1 ≤ c
  c2 : c ≤ 500
  dis : b * b - 4 * a * c = D
  D1 : -2000 ≤ D
  D2 : D < 0
theorem rr_of {D : Int} {f : F3} (hD1 : -2000 ≤ D) (hD : D < 0) (h : PrRc D f) : Rr f.1 f.2.1 f.2.2 D := by
 obtain ⟨rb, ra⟩ := prr_rb hD1 h
 obtain ⟨h1, ⟨⟨h2, h3⟩, h4⟩, h5, _⟩ := h
 have hc1 := rb.c1
 obtain ⟨a, b, c⟩ := f
 simp only [] at *
 refine ⟨h1, ra, by show -a ≤ b; omega, h3, hc1, ?_, h5, hD1, hD⟩
 have hbb : b * b ≤ a * a := by
  have := qG (x := b) (y := b) (A := a.natAbs) (B := a.natAbs) (by omega) (by omega)
  have e : ((a.natAbs * a.natAbs : Nat) : Int) = a * a := by
   rw [Int.natCast_mul]
   have : (a.natAbs : Int) = a := by omega
   rw [this]
  omega
 have haa : a * a ≤ 25 * a := Int.mul_le_mul_of_nonneg_right ra (by omega)
 show c ≤ 500
 rcases Int.lt_or_le 500 c with h | h
 ·exfalso
  have k1 : 4 * a * 501 ≤ 4 * a * c := Int.mul_le_mul_of_nonneg_left (by omega) (by omega)
  have ha : a = 1 := by omega
  subst ha
  omega
 ·exact h
theorem pos_val {a b c D x y : Int} (h : Rr a b c D) (hxy : x ≠ 0 ∨ y ≠ 0) : 1 ≤ a * x * x + b * x * y + c * y * y := by
 have e : 4 * a * (a * x * x + b * x * y + c * y * y) = (2 * a * x + b * y) * (2 * a * x + b * y) - D * (y * y) := by rw [← h.dis]; grind
 have h1 := zEL (2 * a * x + b * y)
 have h2 := zEL y
 have hD := h.D2
 have h3 : 0 ≤ (-D) * (y * y) := Int.mul_nonneg (by omega) h2
 have e2 : D * (y * y) = -((-D) * (y * y)) := by grind
 have ha := h.a1
 rcases Int.lt_or_le 0 (a * x * x + b * x * y + c * y * y) with h4 | h4
 ·exact h4
 ·exfalso
  have h5 : 4 * a * (a * x * x + b * x * y + c * y * y) ≤ 0 := Int.mul_nonpos_of_nonneg_of_nonpos (by omega) h4
  have h6 : (2 * a * x + b * y) * (2 * a * x + b * y) = 0 := by omega
  have h7 : (-D) * (y * y) = 0 := by omega
  have h8 : y = 0 := by
   rcases Int.mul_eq_zero.1 h7 with h | h
   ·omega
   ·rcases Int.mul_eq_zero.1 h with h | h <;> exact h
  subst h8
  have h9 : 2 * a * x + b * 0 = 0 := by
   rcases Int.mul_eq_zero.1 h6 with h | h <;> exact h
  have h10 : 2 * a * x = 0 := by omega
  rcases Int.mul_eq_zero.1 h10 with h | h <;> omega
structure Sb (d : Int) (g : F3) : Prop where
  a1 : 1 ≤ g.1
  aM : g.1 ≤ 1000000
  b1 : -1900000 ≤ g.2.1
  b2 : g.2.1 ≤ 1900000
  c1 : 1 ≤ g.2.2
  cM : g.2.2 ≤ 1000000
  dis : g.2.1 * g.2.1 - 4 * g.1 * g.2.2 = d
def gk (a b c p k : Int) : F3 := (a + b * k + c * k * k, p * (b + 2 * c * k), p * p * c)
def gp (a b c p : Int) : F3 := (p * p * a, p * b, c)
def hj (a b c p j : Int) : F3 := (p * p * a, p * (2 * a * j + b), a * j * j + b * j + c)
theorem sb_k {a b c D p k : Int} (h : Rr a b c D) (hp : 2 ≤ p) (hp2 : p ≤ 43) (k0 : 0 ≤ k) (k1 : k < p) : Sb (p * p * D) (gk a b c p k) := by
 have hv := pos_val h (x := 1) (y := k) (.inl (by decide))
 have e0 : a * 1 * 1 + b * 1 * k + c * k * k = a + b * k + c * k * k := by grind
 rw [e0] at hv
 obtain ⟨a1, a2, b1, b2, c1, c2, dis, D1, D2⟩ := h
 have m1 : (b * k).natAbs ≤ 25 * 42 := qG (by omega) (by omega)
 have m2 : (2 * c * k).natAbs ≤ 2 * 500 * 42 := qG (by omega) (by omega)
 have m3 : (c * k * k).natAbs ≤ 500 * 42 * 42 := qG (qG (by omega) (by omega)) (by omega)
 have m4 : (p * (b + 2 * c * k)).natAbs ≤ 43 * 42025 := qG (by omega) (by omega)
 have m5 : (p * p * c).natAbs ≤ 43 * 43 * 500 := qG (qG (by omega) (by omega)) (by omega)
 have m6 : 2 * 2 ≤ p * p := Int.mul_le_mul hp hp (by omega) (by omega)
 have m7 : 4 * 1 ≤ p * p * c := Int.mul_le_mul m6 c1 (by omega) (by omega)
 refine ⟨hv, ?_, ?_, ?_, ?_, ?_, ?_⟩
 ·show a + b * k + c * k * k ≤ 1000000; omega
 ·show -1900000 ≤ p * (b + 2 * c * k); omega
 ·show p * (b + 2 * c * k) ≤ 1900000; omega
 ·show 1 ≤ p * p * c; omega
 ·show p * p * c ≤ 1000000; omega
 ·show p * (b + 2 * c * k) * (p * (b + 2 * c * k)) - 4 * (a + b * k + c * k * k) * (p * p * c) = p * p * D
  rw [← dis]; grind
theorem sb_p {a b c D p : Int} (h : Rr a b c D) (hp : 2 ≤ p) (hp2 : p ≤ 43) : Sb (p * p * D) (gp a b c p) := by
 obtain ⟨a1, a2, b1, b2, c1, c2, dis, D1, D2⟩ := h
 have m4 : (p * b).natAbs ≤ 43 * 25 := qG (by omega) (by omega)
 have m5 : (p * p * a).natAbs ≤ 43 * 43 * 25 := qG (qG (by omega) (by omega)) (by omega)
 have m6 : 2 * 2 ≤ p * p := Int.mul_le_mul hp hp (by omega) (by omega)
 have m7 : 4 * 1 ≤ p * p * a := Int.mul_le_mul m6 a1 (by omega) (by omega)
 refine ⟨?_, ?_, ?_, ?_, c1, ?_, ?_⟩
 ·show 1 ≤ p * p * a; omega
 ·show p * p * a ≤ 1000000; omega
 ·show -1900000 ≤ p * b; omega
 ·show p * b ≤ 1900000; omega
 ·show c ≤ 1000000; omega
 ·show p * b * (p * b) - 4 * (p * p * a) * c = p * p * D
  rw [← dis]; grind
theorem sb_j {a b c D p j : Int} (h : Rr a b c D) (hp : 2 ≤ p) (hp2 : p ≤ 43) (j0 : 0 ≤ j) (j1 : j < p) : Sb (p * p * D) (hj a b c p j) ∧ (hj a b c p j).2.1.natAbs ≤ 1000000 := by
 have hv := pos_val h (x := j) (y := 1) (.inr (by decide))
 have e0 : a * j * j + b * j * 1 + c * 1 * 1 = a * j * j + b * j + c := by grind
 rw [e0] at hv
 obtain ⟨a1, a2, b1, b2, c1, c2, dis, D1, D2⟩ := h
 have m1 : (b * j).natAbs ≤ 25 * 42 := qG (by omega) (by omega)
 have m2 : (2 * a * j).natAbs ≤ 2 * 25 * 42 := qG (by omega) (by omega)
 have m3 : (a * j * j).natAbs ≤ 25 * 42 * 42 := qG (qG (by omega) (by omega)) (by omega)
 have m4 : (p * (2 * a * j + b)).natAbs ≤ 43 * 2125 := qG (by omega) (by omega)
 have m5 : (p * p * a).natAbs ≤ 43 * 43 * 25 := qG (qG (by omega) (by omega)) (by omega)
 have m6 : 2 * 2 ≤ p * p := Int.mul_le_mul hp hp (by omega) (by omega)
 have m7 : 4 * 1 ≤ p * p * a := Int.mul_le_mul m6 a1 (by omega) (by omega)
 refine ⟨⟨?_, ?_, ?_, ?_, hv, ?_, ?_⟩, ?_⟩
 ·show 1 ≤ p * p * a; omega
 ·show p * p * a ≤ 1000000; omega
 ·show -1900000 ≤ p * (2 * a * j + b); omega
 ·show p * (2 * a * j + b) ≤ 1900000; omega
 ·show a * j * j + b * j + c ≤ 1000000; omega
 ·show p * (2 * a * j + b) * (p * (2 * a * j + b)) - 4 * (p * p * a) * (a * j * j + b * j + c) = p * p * D
  rw [← dis]; grind
 ·show (p * (2 * a * j + b)).natAbs ≤ 1000000; omega
def rd (g : F3) : F3 := (qK g).getD g
theorem rd_ok {d : Int} {g : F3} (h : Sb d g) (hd : d < 0) : qK g = some (rd g) ∧ zCF g = some (rd g) ∧ (1 ≤ (rd g).1 ∧ zBA (rd g).1 (rd g).2.1 (rd g).2.2) ∧ (rd g).2.1 * (rd g).2.1 - 4 * (rd g).1 * (rd g).2.2 = d ∧ Eqf (rd g) g ∧ (rd g).1 ≤ 1000000 ∧ (∃ m1 m2 m3 m4, jI g = some (rd g, (m1, m2, m3, m4)) ∧ m1.natAbs ≤ 2000 ∧ m2.natAbs ≤ 2000 ∧ m3.natAbs ≤ 2000 ∧ m4.natAbs ≤ 2000) := by
 obtain ⟨a, b, c⟩ := g
 obtain ⟨a1, aM, b1, b2, c1, cM, dis⟩ := h
 obtain ⟨g', m1, m2, m3, m4, k1, k2, k3, k4, k5, k6, k7, k8, k9, k10, k11, k12, k13, k14⟩ := red_any a1 aM b1 b2 c1 cM dis hd
 have e1 : qK (a, b, c) = some g' := by simp only [qK, k1, Option.bind_some]
 have e2 : rd (a, b, c) = g' := by unfold rd; rw [e1]; rfl
 rw [e2]
 exact ⟨e1, by simp only [zCF, k2, Option.bind_some], ⟨k3, k4⟩, k5, k6, k11, m1, m2, m3, m4, k1, k7, k8, k9, k10⟩
theorem hj_eqf {a b c p j k m : Int} (h : k * j + p * m = 1) : Eqf (hj a b c p j) (gk a b c p k) := by
 refine ⟨p, j, -k, m, ?_, ?_, ?_, ?_⟩
 ·rw [Int.mul_neg, Int.sub_neg, Int.mul_comm j k]; omega
 ·simp only [hj, gk]; grind
 ·have e : 2 * (a + b * k + c * k * k) * p * j + p * (b + 2 * c * k) * (p * m + j * -k) + 2 * (p * p * c) * -k * m = p * (2 * a * j) + p * b * (k * j + p * m) := by grind
  simp only [hj, gk]
  rw [e, h]; grind
 ·have e : (a + b * k + c * k * k) * j * j + p * (b + 2 * c * k) * j * m + p * p * c * m * m = a * j * j + b * j * (k * j + p * m) + c * ((k * j + p * m) * (k * j + p * m)) := by grind
  simp only [hj, gk]
  rw [e, h]; grind
theorem hj_zero (a b c p : Int) : hj a b c p 0 = gp a b c p := by
 simp only [hj, gp]
 refine Prod.ext rfl (Prod.ext ?_ ?_)
 ·show p * (2 * a * 0 + b) = p * b; grind
 ·show a * 0 * 0 + b * 0 + c = c; grind
theorem up_k {a b c D p k : Int} (hR : Rr a b c D) (hp : 2 ≤ p) (hp2 : p ≤ 43) (k0 : 0 ≤ k) (k1 : k < p) {s t : Int} (hst : s * (a + b * k + c * k * k) + t * p = 1) : gDn hp hR.D2 (gC (p * p * D) (zCO hp hR.D2) (gk a b c p k)) = gC D hR.D2 (a, b, c) := by
 have hv := pos_val hR (x := 1) (y := k) (.inl (by decide))
 have e0 : a * 1 * 1 + b * 1 * k + c * k * k = a + b * k + c * k * k := by grind
 rw [e0] at hv
 have hlow : (b + 2 * c * k) * (b + 2 * c * k) - 4 * (a + b * k + c * k * k) * c = D := by rw [← hR.dis]; grind
 have h1 := gDn_low hp hR.D1 hR.D2 (v := a + b * k + c * k * k) (B := b + 2 * c * k) (C := c) (by omega) hlow hst
 have h2 : gC D hR.D2 (a + b * k + c * k * k, b + 2 * c * k, c) = gC D hR.D2 (a, b, c) := by
  refine zKD.2 ?_
  have hE : Eqf (a + b * k + c * k * k, b + 2 * c * k, c) (a, b, c) := ⟨1, 0, k, 1, by omega, by simp only []; grind, by simp only []; grind, by simp only []; grind⟩
  have := zEO (f := (a + b * k + c * k * k, b + 2 * c * k, c)) (g := (a, b, c)) (by show 0 < a + b * k + c * k * k; omega) (by have := hR.a1; show 0 < a; omega) hE
  have hd : fD (a, b, c) = D := hR.dis
  rw [hd] at this
  exact this
 rw [← h2]; exact h1
theorem up_p {a b c D p : Int} (hR : Rr a b c D) (hp : 2 ≤ p) (hp2 : p ≤ 43) {s t : Int} (hst : s * c + t * p = 1) : gDn hp hR.D2 (gC (p * p * D) (zCO hp hR.D2) (gp a b c p)) = gC D hR.D2 (a, b, c) := by
 have hlow : (-b) * (-b) - 4 * c * a = D := by rw [← hR.dis]; grind
 have hc := hR.c1
 have ha := hR.a1
 have h1 := gDn_low hp hR.D1 hR.D2 (v := c) (B := -b) (C := a) (by omega) hlow hst
 have h2 : gC D hR.D2 (c, -b, a) = gC D hR.D2 (a, b, c) := by
  refine zKD.2 ?_
  have hE : Eqf (c, -b, a) (a, b, c) := ⟨0, -1, 1, 0, by omega, by simp only []; grind, by simp only []; grind, by simp only []; grind⟩
  have := zEO (f := (c, -b, a)) (g := (a, b, c)) (by show 0 < c; omega) (by show 0 < a; omega) hE
  have hd : fD (a, b, c) = D := hR.dis
  rw [hd] at this
  exact this
 have h3 : gC (p * p * D) (zCO hp hR.D2) (c, p * -b, p * p * a) = gC (p * p * D) (zCO hp hR.D2) (gp a b c p) := by
  refine zKD.2 ?_
  have hb := sb_p hR hp hp2
  have hE : Eqf (c, p * -b, p * p * a) (gp a b c p) := ⟨0, -1, 1, 0, by omega, by simp only [gp]; grind, by simp only [gp]; grind, by simp only [gp]; grind⟩
  have := zEO (f := (c, p * -b, p * p * a)) (g := gp a b c p) (by show 0 < c; omega) (by have := hb.a1; omega) hE
  have hd : fD (gp a b c p) = p * p * D := hb.dis
  rw [hd] at this
  exact this
 rw [← h2, ← h1, h3]
end Go.Proofs.YtnheekadeflecaaGreat
namespace Go.Proofs.YtnheekadeflecaaGreat
def subs (a b c : Int) (p : Nat) : List F3 := (List.range p).map (fun k : Nat => gk a b c p k) ++ [gp a b c p]
def clss (a b c : Int) (p : Nat) : List F3 := (subs a b c p).map rd
theorem subs_sb {a b c D : Int} {p : Nat} (h : Rr a b c D) (hp : 2 ≤ p) (hp2 : p ≤ 43) : ∀ g ∈ subs a b c p, Sb (p * p * D) g := by
 intro g hg
 rcases List.mem_append.1 hg with hg | hg
 ·obtain ⟨k, hk, rfl⟩ := List.mem_map.1 hg
  have := List.mem_range.1 hk
  exact sb_k h (by omega) (by omega) (by omega) (by omega)
 ·rw [List.mem_singleton.1 hg]
  exact sb_p h (by omega) (by omega)
theorem sub_k {a b c D : Int} {p k : Int} (h : Rr a b c D) (hp : 2 ≤ p) (hp2 : p ≤ 43) (k0 : 0 ≤ k) (k1 : k < p) : zQ (a, b, c) (1, 0, k, p) = some (gk a b c p k) := by
 have hs := sb_k h hp hp2 k0 k1
 obtain ⟨a1, aM, b1, b2, c1, cM, _⟩ := hs
 simp only [gk] at a1 aM b1 b2 c1 cM
 rw [sub_w]
 have e1 : a * 1 * 1 + b * 1 * k + c * k * k = a + b * k + c * k * k := by grind
 have e2 : 2 * a * 1 * 0 + b * (1 * p + k * 0) + 2 * c * k * p = p * (b + 2 * c * k) := by grind
 have e3 : a * 0 * 0 + b * 0 * p + c * p * p = p * p * c := by grind
 rw [e1, e2, e3, zW (by omega), zW (by omega), zW (by omega)]
 rfl
theorem sub_j {a b c D : Int} {p j : Int} (h : Rr a b c D) (hp : 2 ≤ p) (hp2 : p ≤ 43) (j0 : 0 ≤ j) (j1 : j < p) : zQ (a, b, c) (p, j, 0, 1) = some (hj a b c p j) := by
 have hs := (sb_j h hp hp2 j0 j1).1
 obtain ⟨a1, aM, b1, b2, c1, cM, _⟩ := hs
 simp only [hj] at a1 aM b1 b2 c1 cM
 rw [sub_w]
 have e1 : a * p * p + b * p * 0 + c * 0 * 0 = p * p * a := by grind
 have e2 : 2 * a * p * j + b * (p * 1 + 0 * j) + 2 * c * 0 * 1 = p * (2 * a * j + b) := by grind
 have e3 : a * j * j + b * j * 1 + c * 1 * 1 = a * j * j + b * j + c := by grind
 rw [e1, e2, e3, zW (by omega), zW (by omega), zW (by omega)]
 rfl
end Go.Proofs.YtnheekadeflecaaGreat
namespace Go.Proofs.YtnheekadeflecaaGreat
theorem eqB_iff (x y : F3) : ((x.1 == y.1) && ((x.2.1 == y.2.1) && (x.2.2 == y.2.2))) = decide (x = y) := by
 rw [Bool.eq_iff_iff, Bool.and_eq_true, Bool.and_eq_true, beq_iff_eq, beq_iff_eq, beq_iff_eq, decide_eq_true_iff]
 exact ⟨fun ⟨a, b, c⟩ => Prod.ext a (Prod.ext b c), fun h => by rw [h]; exact ⟨rfl, rfl, rfl⟩⟩
def primB (g : F3) : Bool := decide (Int.gcd g.1 (Int.gcd g.2.1 g.2.2) = 1)
theorem has_loop (f : F3) (ys : List F3) (hlen : ys.length ≤ 1000) : ∀ (k fu i : Nat), i + k = ys.length → k < fu → zBp f ys fu (i : Int) = some (if f ∈ ys.drop i then .inr true else .inl ())
 | k, 0, i, _, hf => by omega
 | k, fu + 1, i, hi, hf => by
  rw [zBp, jN]
  by_cases h1 : i < ys.length
  ·rw [decide_eq_true (by omega), cond_true, zEv h1]
   simp only [Option.bind_some]
   rw [eqB_iff, List.drop_eq_getElem_cons h1]
   obtain ⟨k', rfl⟩ : ∃ k', k = k' + 1 := ⟨k - 1, by omega⟩
   by_cases h2 : f = ys[i]
   ·rw [decide_eq_true h2, cond_true, if_pos (by rw [h2]; exact List.mem_cons_self ..)]
   ·rw [decide_eq_false h2, cond_false]
    simp only [qM]
    rw [zFn (by omega), has_loop f ys hlen k' fu (i + 1) (by omega) (by omega)]
    by_cases h3 : f ∈ ys.drop (i + 1)
    ·rw [if_pos h3, if_pos (List.mem_cons_of_mem _ h3)]
    ·rw [if_neg h3, if_neg (fun hm => (List.mem_cons.1 hm).elim h2 h3)]
  ·rw [decide_eq_false (by omega), cond_false, List.drop_eq_nil_of_le (by omega)]
   simp
theorem has_val (f : F3) (ys : List F3) (hlen : ys.length ≤ 1000) : zD4 ys f = some (decide (f ∈ ys)) := by
 have hF := FUge
 have := has_loop f ys hlen ys.length FU 0 (by omega) (by omega)
 have e0 : (((0 : Nat) : Int)) = 0 := rfl
 rw [e0, List.drop_zero] at this
 simp only [zD4, this, Option.bind_some]
 by_cases h : f ∈ ys <;> simp [h]
def pN : List Nat := [2, 3, 5, 7, 11, 13, 17, 19, 23, 41, 43]
theorem pN_bd {n : Nat} (hn : n ∈ pN) : 2 ≤ n ∧ n ≤ 43 := by
 simp only [pN, List.mem_cons, List.not_mem_nil, or_false] at hn
 omega
def okDiv (n : Nat) : Bool := (List.range (n + 1)).all fun d => bif Nat.beq (n % d) 0 then (Nat.beq d 1 || (Nat.beq d n || Nat.beq d 0)) else true
theorem okDiv_all : (pN.all okDiv) = true := by decide +kernel
theorem pN_prime {n d : Nat} (hn : n ∈ pN) (hd : d ∣ n) : d = 1 ∨ d = n := by
 have h := List.all_eq_true.1 okDiv_all n hn
 obtain ⟨h2, h3⟩ := pN_bd hn
 have hle := Nat.le_of_dvd (by omega) hd
 have h4 := List.all_eq_true.1 h d (List.mem_range.2 (by omega))
 have h5 : Nat.beq (n % d) 0 = true := by rw [Nat.beq_eq]; exact Nat.mod_eq_zero_of_dvd hd
 rw [h5, cond_true, Bool.or_eq_true, Bool.or_eq_true, Nat.beq_eq, Nat.beq_eq, Nat.beq_eq] at h4
 rcases h4 with h6 | h6 | h6
 ·exact .inl h6
 ·exact .inr h6
 ·subst h6
  have := Nat.eq_zero_of_zero_dvd hd
  omega
theorem pN_bez {n : Nat} (hn : n ∈ pN) {v : Int} (hv : ¬ (n : Int) ∣ v) : ∃ s t : Int, s * v + t * n = 1 := by
 obtain ⟨s, t, h⟩ := bez_int v n
 have hd : Int.gcd v n ∣ n := by
  have := Int.gcd_dvd_right v (n : Int)
  exact Int.natCast_dvd_natCast.1 this
 rcases pN_prime hn hd with h1 | h1
 ·exact ⟨s, t, by rw [h, h1]; rfl⟩
 ·exfalso
  apply hv
  have := Int.gcd_dvd_left v (n : Int)
  rw [h1] at this
  exact this
def lats (n : Nat) : List F3 := (1, 0, (n : Int)) :: (List.range n).map fun b : Nat => ((n : Int), (b : Int), 1)
def inv (n j : Nat) : Nat := ((List.range n).find? fun k => Nat.beq (k * j % n) 1).getD 0
def okInv (n : Nat) : Bool := (((List.range (n - 1)).map fun i => inv n (i + 1)).isPerm ((List.range (n - 1)).map fun i => i + 1)) && (List.range (n - 1)).all fun i => Nat.beq (inv n (i + 1) * (i + 1) % n) 1 && Nat.blt (inv n (i + 1)) n
theorem okInv_all : (pN.all okInv) = true := by decide +kernel
theorem inv_perm {n : Nat} (hn : n ∈ pN) : List.Perm ((List.range (n - 1)).map fun i => inv n (i + 1)) ((List.range (n - 1)).map fun i => i + 1) := by
 have h := List.all_eq_true.1 okInv_all n hn
 unfold okInv at h
 rw [Bool.and_eq_true] at h
 exact List.isPerm_iff.1 h.1
theorem inv_ok {n i : Nat} (hn : n ∈ pN) (hi : i < n - 1) : inv n (i + 1) < n ∧ ∃ m : Int, (inv n (i + 1) : Int) * ((i + 1 : Nat) : Int) + n * m = 1 := by
 have h := List.all_eq_true.1 okInv_all n hn
 unfold okInv at h
 rw [Bool.and_eq_true] at h
 have h2 := List.all_eq_true.1 h.2 i (List.mem_range.2 hi)
 rw [Bool.and_eq_true, Nat.beq_eq] at h2
 have h3 : inv n (i + 1) < n := by
  have := h2.2
  simpa [Nat.blt_eq] using this
 refine ⟨h3, -((inv n (i + 1) * (i + 1) / n : Nat) : Int), ?_⟩
 have h4 := Nat.mod_add_div (inv n (i + 1) * (i + 1)) n
 rw [h2.1] at h4
 have h5 : (1 : Int) + n * ((inv n (i + 1) * (i + 1) / n : Nat) : Int) = (inv n (i + 1) : Int) * ((i + 1 : Nat) : Int) := by exact_mod_cast h4
 rw [Int.mul_neg]; omega
def latF (a b c : Int) (x : F3) : F3 := (zQ (a, b, c) (x.1, x.2.1, 0, x.2.2)).getD (a, b, c)
theorem lat_cls {a b c D : Int} {n : Nat} (h : Rr a b c D) (hn : n ∈ pN) : List.Perm ((lats n).map fun x => rd (latF a b c x)) (clss a b c n) := by
 obtain ⟨h2, h43⟩ := pN_bd hn
 have hD : (n : Int) * n * D < 0 := zCO (by omega) h.D2
 have l0 : latF a b c (1, 0, (n : Int)) = gk a b c n 0 := by
  have := sub_k h (p := (n : Int)) (k := 0) (by omega) (by omega) (by omega) (by omega)
  unfold latF
  rw [this]; rfl
 have lj : ∀ j : Nat, j < n → latF a b c ((n : Int), (j : Int), 1) = hj a b c n j := by
  intro j hjn
  have := sub_j h (p := (n : Int)) (j := (j : Int)) (by omega) (by omega) (by omega) (by omega)
  unfold latF
  simp only []
  rw [this]; rfl
 obtain ⟨m, rfl⟩ : ∃ m, n = m + 1 := ⟨n - 1, by omega⟩
 have e1 : (lats (m + 1)).map (fun x => rd (latF a b c x)) = rd (gk a b c (m + 1 : Nat) 0) :: rd (gp a b c (m + 1 : Nat)) :: (List.range m).map (fun i => rd (gk a b c (m + 1 : Nat) (inv (m + 1) (i + 1) : Nat))) := by
  unfold lats
  rw [List.map_cons, l0, List.range_succ_eq_map, List.map_cons, List.map_cons, lj 0 (by omega)]
  have e0 : hj a b c ((m + 1 : Nat) : Int) ((0 : Nat) : Int) = gp a b c ((m + 1 : Nat) : Int) := hj_zero ..
  rw [e0]
  congr 2
  rw [List.map_map, List.map_map]
  refine List.map_congr_left fun i hi => ?_
  have hi' := List.mem_range.1 hi
  show rd (latF a b c (((m + 1 : Nat) : Int), ((i + 1 : Nat) : Int), 1)) = _
  rw [lj (i + 1) (by omega)]
  obtain ⟨i1, mm, i2⟩ := inv_ok (n := m + 1) (i := i) hn (by omega)
  have s1 := (sb_j h (p := ((m + 1 : Nat) : Int)) (j := ((i + 1 : Nat) : Int)) (by omega) (by omega) (by omega) (by omega)).1
  have s2 := sb_k h (p := ((m + 1 : Nat) : Int)) (k := ((inv (m + 1) (i + 1) : Nat) : Int)) (by omega) (by omega) (by omega) (by omega)
  obtain ⟨_, _, r3, _, r5, _⟩ := rd_ok s1 hD
  obtain ⟨_, _, q3, _, q5, _⟩ := rd_ok s2 hD
  exact red_same r3 q3 r5 q5 (hj_eqf i2) (by have := s1.a1; omega) (by have := s2.a1; omega) (by rw [show fD (gk a b c ((m + 1 : Nat) : Int) ((inv (m + 1) (i + 1) : Nat) : Int)) = ((m + 1 : Nat) : Int) * ((m + 1 : Nat) : Int) * D from s2.dis]; exact hD)
 have e2 : clss a b c (m + 1) = rd (gk a b c (m + 1 : Nat) 0) :: ((List.range m).map (fun i => rd (gk a b c (m + 1 : Nat) (i + 1 : Nat))) ++ [rd (gp a b c (m + 1 : Nat))]) := by
  unfold clss subs
  rw [List.range_succ_eq_map, List.map_append, List.map_cons, List.map_cons, List.map_map, List.map_map, List.map_cons, List.map_nil]
  rfl
 rw [e1, e2]
 refine List.Perm.cons _ ?_
 have hp := (inv_perm hn).map (fun k : Nat => rd (gk a b c ((m + 1 : Nat) : Int) (k : Int)))
 rw [List.map_map, List.map_map, show m + 1 - 1 = m by omega] at hp
 exact (List.Perm.cons _ hp).trans (List.perm_append_singleton _ _).symm
theorem prim_of {g : F3} (h : primB g = true) (k : Int) (h1 : k ∣ g.1) (h2 : k ∣ g.2.1) (h3 : k ∣ g.2.2) : k ∣ 1 := by
 have h4 := of_decide_eq_true h
 have h5 : k ∣ (Int.gcd g.1 (Int.gcd g.2.1 g.2.2) : Int) := Int.dvd_coe_gcd h1 (Int.dvd_coe_gcd h2 h3)
 rw [h4] at h5
 exact h5
theorem up_cls {a b c D : Int} {n : Nat} (h : Rr a b c D) (hn : n ∈ pN) (hp : 2 ≤ (n : Int)) {g : F3} (hg : g ∈ clss a b c n) (hpr : primB g = true) : gDn hp h.D2 (gC ((n : Int) * n * D) (zCO hp h.D2) g) = gC D h.D2 (a, b, c) := by
 obtain ⟨h2, h43⟩ := pN_bd hn
 have hD : (n : Int) * n * D < 0 := zCO hp h.D2
 obtain ⟨x, hx, rfl⟩ := List.mem_map.1 hg
 have hs := subs_sb h h2 h43 x hx
 obtain ⟨_, _, r3, r4, r5, _⟩ := rd_ok hs hD
 have px := zIQ (zKH r5) (prim_of hpr)
 have e1 : gC ((n : Int) * n * D) (zCO hp h.D2) (rd x) = gC ((n : Int) * n * D) (zCO hp h.D2) x := by
  refine zKD.2 ?_
  have := zEO (show 0 < (rd x).1 by omega) (show 0 < x.1 by have := hs.a1; omega) r5
  rw [show fD x = (n : Int) * n * D from hs.dis] at this
  exact this
 rw [e1]
 have notd : ∀ v : Int, ((n : Int) ∣ v → False) → ∃ s t : Int, s * v + t * n = 1 := fun v hv => pN_bez hn hv
 have not1 : ¬ (n : Int) ∣ 1 := by
  intro hd
  have := Int.le_of_dvd (by decide) hd
  omega
 rcases List.mem_append.1 hx with hx | hx
 ·obtain ⟨k, hk, rfl⟩ := List.mem_map.1 hx
  have hk' := List.mem_range.1 hk
  obtain ⟨s, t, hst⟩ := notd (a + b * k + c * k * k) (fun hd => not1 (px n hd ⟨b + 2 * c * k, rfl⟩ ⟨n * c, by show (n : Int) * n * c = n * (n * c); grind⟩))
  exact up_k h hp (by omega) (by omega) (by omega) hst
 ·have hx := List.mem_singleton.1 hx
  subst hx
  obtain ⟨s, t, hst⟩ := notd c (fun hd => not1 (px n ⟨n * a, by show (n : Int) * n * a = n * (n * a); grind⟩ ⟨b, rfl⟩ hd))
  exact up_p h hp (by omega) hst
end Go.Proofs.YtnheekadeflecaaGreat
namespace Go.Proofs.YtnheekadeflecaaGreat
set_option maxRecDepth 100000
theorem up_val {d p : Int} (h : w64 (w64 (d * p) * p) = d * p * p) : qF (w64 (w64 (d * p) * p)) = some (decide (-2000 ≤ d * p * p ∧ d * p * p ≤ -3 ∧ d * p * p % 4 ≤ 1)) := by
 rw [h, zF6]
theorem lf_cases (d p : Int) (hd : -2000 ≤ d ∧ d ≤ -3 ∧ d % 4 ≤ 1) : (zCA d p = some false ∧ j9 d p = some false) ∨ (zCA d p = some true ∧ j9 d p = some true ∧ j7 p = some true ∧ w64 (w64 (d * p) * p) = d * p * p ∧ 2 ≤ p ∧ p ≤ 25 ∧ -2000 ≤ d * p * p) := by
 simp only [zCA, negdisc_eq, zF6 d, Option.bind_some]
 rw [decide_eq_true hd]
 simp only [cond_true, Bool.not_true, cond_false, zEW, zCW, prime_eq, j9, zCH, zJ5 _ (show [p].length < 1000000 by simp), List.all_cons, List.all_nil, Bool.and_true, Option.bind_some, inN, zAN]
 by_cases h0 : p < 2
 ·have e1 : ¬ (2 ≤ p) := by omega
  have e2 : j7 p = some false := by simp only [j7, jN, decide_eq_true h0, cond_true]
  left
  rw [decide_eq_false e1, e2]
  constructor
  ·rfl
  ·cases (decide (-1000000 ≤ p) && decide (p ≤ 1000000)) <;> rfl
 ·by_cases h1 : 1000000 < p
  ·have e1 : ¬ (p ≤ 1000) := by omega
   have e2 : ¬ (p ≤ 1000000) := by omega
   left
   constructor <;> simp [e1, e2]
  ·obtain ⟨q, hq⟩ := prime_some p (by omega)
   rw [hq, decide_eq_true (show 2 ≤ p by omega), decide_eq_true (show -1000000 ≤ p by omega), decide_eq_true (show p ≤ 1000000 by omega)]
   cases q with
   | false => left; constructor <;> simp
   | true =>
    by_cases h2 : p ≤ 2000
    ·have m1 := qG (x := d) (y := p) (A := 2000) (B := 2000) (by omega) (by omega)
     have m2 := qG (x := d * p) (y := p) (A := 2000 * 2000) (B := 2000) m1 (by omega)
     have hw : w64 (w64 (d * p) * p) = d * p * p := by rw [jQ (n := d * p) (by omega), jQ (by omega)]
     rw [up_val hw]
     by_cases h3 : -2000 ≤ d * p * p
     ·have h4 : p ≤ 25 := by
       by_cases h4 : p ≤ 25
       ·exact h4
       ·have k1 : 26 * 26 ≤ p * p := Int.mul_le_mul (by omega) (by omega) (by omega) (by omega)
        have k2 : 3 * (p * p) ≤ (-d) * (p * p) := Int.mul_le_mul_of_nonneg_right (by omega) (by omega)
        have k3 : (-d) * (p * p) = -(d * p * p) := by grind
        omega
      rw [decide_eq_true (show p ≤ 1000 by omega), decide_eq_true (show p ≤ 2000 by omega)]
      cases decide (-2000 ≤ d * p * p ∧ d * p * p ≤ -3 ∧ d * p * p % 4 ≤ 1) with
      | false => left; constructor <;> rfl
      | true => right; exact ⟨rfl, rfl, rfl, hw, by omega, h4, h3⟩
     ·left
      rw [decide_eq_false (show ¬ (-2000 ≤ d * p * p ∧ d * p * p ≤ -3 ∧ d * p * p % 4 ≤ 1) by omega)]
      constructor
      ·cases decide (p ≤ 1000) <;> rfl
      ·cases decide (p ≤ 2000) <;> rfl
    ·left
     rw [decide_eq_false (show ¬ (p ≤ 1000) by omega), decide_eq_false h2]
     constructor <;> rfl
end Go.Proofs.YtnheekadeflecaaGreat
namespace Go.Proofs.YtnheekadeflecaaGreat
def lt3 (x y : Int × Int × Int) : Prop := x.1 < y.1 ∨ (x.1 = y.1 ∧ (x.2.1 < y.2.1 ∨ (x.2.1 = y.2.1 ∧ x.2.2 < y.2.2)))
instance (x y : Int × Int × Int) : Decidable (lt3 x y) := by unfold lt3; infer_instance
theorem lt3_irr (x : Int × Int × Int) : ¬ lt3 x x := by unfold lt3; omega
theorem lt3_tr {x y z : Int × Int × Int} (h : lt3 x y) (k : lt3 y z) : lt3 x z := by unfold lt3 at *; omega
theorem lt3_tri (x y : Int × Int × Int) : lt3 x y ∨ x = y ∨ lt3 y x := by
 obtain ⟨a, b, c⟩ := x
 obtain ⟨d, e, f⟩ := y
 unfold lt3
 simp only [Prod.mk.injEq]
 omega
theorem zJ2 : ∀ {l m : List (Int × Int × Int)}, l.Pairwise lt3 → m.Pairwise lt3 → (∀ x, x ∈ l ↔ x ∈ m) → l = m
 | [], [], _, _, _ => rfl
 | [], b :: m, _, _, h => by have := (h b).2 (List.mem_cons_self ..); cases this
 | a :: l, [], _, _, h => by have := (h a).1 (List.mem_cons_self ..); cases this
 | a :: l, b :: m, hl, hm, h => by
  rw [List.pairwise_cons] at hl hm
  have e : a = b := by
   rcases List.mem_cons.1 ((h a).1 (List.mem_cons_self ..)) with h1 | h1
   ·exact h1
   ·rcases List.mem_cons.1 ((h b).2 (List.mem_cons_self ..)) with h2 | h2
    ·exact h2.symm
    ·exact absurd (lt3_tr (hl.1 b h2) (hm.1 a h1)) (lt3_irr a)
  subst e
  congr 1
  refine zJ2 hl.2 hm.2 fun x => ?_
  constructor
  ·intro hx
   rcases List.mem_cons.1 ((h x).1 (List.mem_cons_of_mem _ hx)) with h1 | h1
   ·subst h1; exact absurd (hl.1 x hx) (lt3_irr x)
   ·exact h1
  ·intro hx
   rcases List.mem_cons.1 ((h x).2 (List.mem_cons_of_mem _ hx)) with h1 | h1
   ·subst h1; exact absurd (hm.1 x hx) (lt3_irr x)
   ·exact h1
theorem zJr {d : Int} (hd1 : -2000 ≤ d) (hd2 : d ≤ -3) {L : List (Int × Int × Int)} (hL : zAA d = some L) : L.Pairwise lt3 := by
 have hF := FUge
 obtain ⟨L0, k1, k2, k3, asq, k4, k5, k6⟩ := zIf hd1 hd2 26 FU 1 [] (by omega) (by omega) (by omega) (by simp)
 rw [List.nil_append] at k1
 have hLl : L0.length ≤ 27000 := by omega
 have hmem : ∀ f ∈ L0, 1 ≤ f.1 ∧ zBA f.1 f.2.1 f.2.2 ∧ f.2.1 * f.2.1 - 4 * f.1 * f.2.2 = d := fun f hf => (zJ3 hd1 hd2).1 ((k3 f).1 hf)
 have hbd : ∀ f ∈ L0, inN f.1 = true ∧ inN f.2.1 = true ∧ inN f.2.2 = true := by
  intro f hf
  obtain ⟨h1, h2, h3⟩ := hmem f hf
  have h4 := red_sq h1 h2 h3
  obtain ⟨⟨h5, h6⟩, h7⟩ := h2
  have ha : f.1 ≤ 26 := by
   rcases Int.lt_or_le 26 f.1 with h8 | h8
   ·have := zF1 (a := 27) (b := f.1) (by omega) (by omega)
    have e : 3 * f.1 * f.1 = 3 * (f.1 * f.1) := by grind
    omega
   ·exact h8
  have hb := qG (x := f.2.1) (y := f.2.1) (A := 26) (B := 26) (by omega) (by omega)
  have hc : f.2.2 ≤ 1000 := by
   have h9 : 4 * 1 * f.2.2 ≤ 4 * f.1 * f.2.2 := by
    have : 4 * 1 * f.2.2 ≤ (4 * f.1) * f.2.2 := Int.mul_le_mul_of_nonneg_right (by omega) (by omega)
    exact this
   omega
  rw [zAf, zAf, zAf]
  omega
 have h2 := zF5 (l := L0) (by omega) hbd FU 0 [] (by omega) (by omega) (by simp)
 rw [List.nil_append, List.drop_zero] at h2
 have h3 : zAA d = some (L0.filter fun f => eqI (Int.gcd f.1 (Int.gcd f.2.1 f.2.2) : Int) 1) := by
  simp only [zAA, zDf, k1, Option.bind_some]
  exact congrArg (fun z => z.bind fun o => some o) h2
 rw [hL] at h3
 obtain rfl := zB h3
 refine List.Pairwise.filter _ ?_
 rw [k6, List.pairwise_flatMap]
 refine ⟨fun a _ => ?_, k4.imp ?_⟩
 ·unfold rowR
  refine List.Pairwise.filter _ ?_
  rw [List.pairwise_map]
  refine (upz_lt (2 * a).toNat (1 - a)).imp ?_
  intro x y hxy
  exact .inr ⟨rfl, .inl hxy⟩
 ·intro x y hxy f hf g hg
  have fx := zGn hf
  have gy := zGn hg
  exact .inl (by omega)
end Go.Proofs.YtnheekadeflecaaGreat
namespace Go.Proofs.YtnheekadeflecaaGreat
theorem less_val {l : List (Int × Int × Int)} {i k : Nat} (hi : i < l.length) (hk : k < l.length) : qH (i : Int) (k : Int) l = some (decide (lt3 l[i] l[k])) := by
 simp only [qH, zEv hi, zEv hk, Option.bind_some, zDO, jN]
 generalize l[i] = x
 generalize l[k] = y
 obtain ⟨a, b, c⟩ := x
 obtain ⟨d, e, f⟩ := y
 simp only
 by_cases h1 : a = d
 ·subst h1
  rw [beq_self_eq_true, Bool.not_true, cond_false]
  by_cases h2 : b = e
  ·subst h2
   rw [beq_self_eq_true, Bool.not_true, cond_false]
   refine congrArg some (decide_eq_decide.2 ?_)
   exact ⟨fun h => .inr ⟨rfl, .inr ⟨rfl, h⟩⟩, fun h => by rcases h with h | ⟨_, h | ⟨_, h⟩⟩ <;> simp only at h <;> omega⟩
  ·rw [beq_eq_false_iff_ne.2 h2, Bool.not_false, cond_true]
   refine congrArg some (decide_eq_decide.2 ?_)
   exact ⟨fun h => .inr ⟨rfl, .inl h⟩, fun h => by rcases h with h | ⟨_, h | ⟨h3, h⟩⟩ <;> first | exact h | (simp only at h; omega) | exact absurd h3 h2⟩
 ·rw [beq_eq_false_iff_ne.2 h1, Bool.not_false, cond_true]
  refine congrArg some (decide_eq_decide.2 ?_)
  exact ⟨fun h => by unfold lt3; simp only; omega, fun h => by unfold lt3 at h; simp only at h; omega⟩
theorem swap_mid (A : List (Int × Int × Int)) (x y : Int × Int × Int) (T : List (Int × Int × Int)) : ((A ++ y :: x :: T).set (A.length + 1) y).set A.length x = A ++ x :: y :: T := by
 rw [List.set_append_right _ _ (by omega), show A.length + 1 - A.length = 1 by omega, List.set_append_right _ _ (by omega), Nat.sub_self]
 rfl
theorem ins_in {b2 i : Int} {x : Int × Int × Int} {C : List (Int × Int × Int)} : ∀ (fu : Nat) (A B : List (Int × Int × Int)), A.length < fu → A.length + B.length + C.length ≤ 1000000 → (∀ b ∈ B, lt3 x b) → ∃ A' B', A' ++ B' = A ++ B ∧ jH 0 b2 i fu (A.length : Int) (A ++ x :: (B ++ C)) = some (A' ++ x :: (B' ++ C)) ∧ (∀ b ∈ B', lt3 x b) ∧ (A' = [] ∨ ∃ L y, A' = L ++ [y] ∧ ¬ lt3 x y)
 | 0, A, B, h, _, _ => by omega
 | fu + 1, A, B, h, hl, hB => by
  rw [jH, jN]
  rcases List.eq_nil_or_concat A with e | ⟨L, y, e⟩
  ·subst e
   refine ⟨[], B, rfl, ?_, hB, .inl rfl⟩
   simp
  ·rw [List.concat_eq_append] at e
   subst e
   have hj : ((L ++ [y]).length : Int) = ((L.length + 1 : Nat) : Int) := by simp
   have hw : w64 (((L.length + 1 : Nat) : Int) - 1) = (L.length : Int) := by
    rw [zW (by (have : (L ++ [y]).length = L.length + 1 := by simp); omega)]
    omega
   have e0 : (L ++ [y]) ++ x :: (B ++ C) = L ++ y :: x :: (B ++ C) := by simp
   have l1 : L.length + 1 < (L ++ y :: x :: (B ++ C)).length := by simp
   have l2 : L.length < (L ++ y :: x :: (B ++ C)).length := by simp
   have g1 : (L ++ y :: x :: (B ++ C))[L.length + 1]'l1 = x := by
    rw [List.getElem_append_right (by omega)]
    simp
   have g2 : (L ++ y :: x :: (B ++ C))[L.length]'l2 = y := by
    rw [List.getElem_append_right (by omega)]
    simp
   rw [hj, e0, hw, decide_eq_true (by omega), cond_true, less_val l1 l2, zEv l1, zEv l2, g1, g2]
   simp only [Option.bind_some]
   by_cases hlt : lt3 x y
   ·rw [decide_eq_true hlt, cond_true]
    simp only [qM, Int.toNat_natCast]
    rw [swap_mid]
    obtain ⟨A', B', k1, k2, k3, k4⟩ := ins_in (b2 := b2) (i := i) (x := x) (C := C) fu L (y :: B) (by simp at h; omega) (by simp at hl ⊢; omega) (by
     intro b hb
     rcases List.mem_cons.1 hb with e | e
     ·rw [e]; exact hlt
     ·exact hB b e)
    exact ⟨A', B', by rw [k1]; simp, k2, k3, k4⟩
   ·rw [decide_eq_false hlt, cond_false]
    exact ⟨L ++ [y], B, rfl, by rw [← e0], hB, .inr ⟨L, y, rfl, hlt⟩⟩
theorem ins_out {n : Nat} : ∀ (k fu : Nat) (S R : List (Int × Int × Int)), S.length + R.length = n → n ≤ 1000000 → R.length = k → k < fu → S.Pairwise lt3 → (S ++ R).Nodup → ∃ r, qR 0 (n : Int) fu (S.length : Int) (S ++ R) = some r ∧ r.Pairwise lt3 ∧ r.Perm (S ++ R)
 | k, 0, S, R, _, _, _, h, _, _ => by omega
 | 0, fu + 1, S, R, h1, hn, h2, h3, h4, h5 => by
  have e : R = [] := List.length_eq_zero_iff.1 h2
  subst e
  rw [qR, jN, decide_eq_false (by simp at h1; omega), cond_false]
  exact ⟨_, rfl, by rw [List.append_nil]; exact h4, List.Perm.refl _⟩
 | k + 1, fu + 1, S, R, h1, hn, h2, h3, h4, h5 => by
  obtain ⟨x, C, rfl⟩ : ∃ x C, R = x :: C := by
   cases R with
   | nil => simp at h2
   | cons x C => exact ⟨x, C, rfl⟩
  have hF := FUge
  rw [qR, jN, decide_eq_true (by simp at h1; omega), cond_true]
  obtain ⟨A', B', k1, k2, k3, k4⟩ := ins_in (b2 := (n : Int)) (i := (S.length : Int)) (x := x) (C := C) FU S [] (by simp at h1; omega) (by simp at h1 ⊢; omega) (by intro b hb; cases hb)
  rw [List.append_nil] at k1
  rw [List.nil_append] at k2
  rw [k2]
  simp only [Option.bind_some, qM]
  rw [zFn (by simp at h1; omega)]
  subst k1
  have e1 : A' ++ x :: (B' ++ C) = (A' ++ x :: B') ++ C := by simp
  have hp : ((A' ++ x :: B') ++ C).Perm ((A' ++ B') ++ x :: C) := by
   have q1 : (A' ++ x :: B').Perm (x :: (A' ++ B')) := List.perm_middle
   have q2 : ((A' ++ B') ++ x :: C).Perm (x :: ((A' ++ B') ++ C)) := List.perm_middle
   exact (q1.append_right C).trans q2.symm
  have hnd : ((A' ++ x :: B') ++ C).Nodup := hp.nodup_iff.2 h5
  rw [List.pairwise_append] at h4
  have hs : (A' ++ x :: B').Pairwise lt3 := by
   rw [List.pairwise_append]
   have hax : ∀ a ∈ A', lt3 a x := by
    rcases k4 with e | ⟨L, y, e, hxy⟩
    ·subst e; intro a ha; cases ha
    ·subst e
     have hne : y ≠ x := by
      intro e
      have h6 := hnd
      rw [List.nodup_append] at h6
      have h7 := h6.1
      rw [List.nodup_append] at h7
      exact h7.2.2 y (by simp) x (by simp) e
     have hyx : lt3 y x := by
      rcases lt3_tri x y with h | h | h
      ·exact absurd h hxy
      ·exact absurd h.symm hne
      ·exact h
     intro a ha
     rcases List.mem_append.1 ha with h | h
     ·have := h4.1
      rw [List.pairwise_append] at this
      exact lt3_tr (this.2.2 a h y (by simp)) hyx
     ·rw [List.mem_singleton] at h; rw [h]; exact hyx
   refine ⟨h4.1, ?_, ?_⟩
   ·rw [List.pairwise_cons]; exact ⟨k3, h4.2.1⟩
   ·intro a ha b hb
    rcases List.mem_cons.1 hb with e | e
    ·rw [e]; exact hax a ha
    ·exact h4.2.2 a ha b e
  have hlen : (A' ++ x :: B').length = (A' ++ B').length + 1 := by simp; omega
  obtain ⟨r, r1, r2, r3⟩ := ins_out k fu (A' ++ x :: B') C (by rw [hlen]; simp at h1 ⊢; omega) hn (by simp at h2; exact h2) (by omega) hs hnd
  rw [hlen] at r1
  rw [e1, r1]
  exact ⟨r, rfl, r2, r3.trans hp⟩
theorem ins_val {xs : List (Int × Int × Int)} (h1 : 1 ≤ xs.length) (hl : xs.length ≤ 1000) (hnd : xs.Nodup) : ∃ r, zAD xs 0 (xs.length : Int) = some r ∧ r.Pairwise lt3 ∧ r.Perm xs := by
 have hF := FUge
 cases xs with
 | nil => simp at h1
 | cons x C =>
  obtain ⟨r, r1, r2, r3⟩ := ins_out (n := (x :: C).length) C.length FU [x] C (by simp; omega) (by omega) rfl (by simp at hl; omega) (List.pairwise_singleton _ _) hnd
  have r1 : qR 0 ((x :: C).length : Int) FU 1 (x :: C) = some r := r1
  refine ⟨r, ?_, r2, r3⟩
  simp only [zAD, qM, show w64 (0 + 1) = 1 from by decide, r1, Option.bind_some]
theorem sort_val {xs : List (Int × Int × Int)} (hl : xs.length ≤ 12) (hnd : xs.Nodup) : ∃ r, zAt xs = some r ∧ r.Pairwise lt3 ∧ r.Perm xs := by
 have hF := FUge
 obtain ⟨m, hm⟩ : ∃ m, FU = m + 1 := ⟨FU - 1, by omega⟩
 unfold zAt
 have b0 : Nat.ble 1048576 xs.length = false := by
  cases h : Nat.ble 1048576 xs.length with
  | false => rfl
  | true => have := Nat.le_of_ble_eq_true h; omega
 have ew : w64 ((xs.length : Int) - 0) = (xs.length : Int) := by rw [zW (by omega)]; omega
 have e12 : leI (xs.length : Int) 12 = true := by rw [zAN, decide_eq_true (by omega)]
 rw [b0, cond_false]
 by_cases h1 : xs.length ≤ 1
 ·rw [Nat.ble_eq_true_of_le h1, cond_true]
  have k1 : zAP xs 0 (xs.length : Int) = some xs := by
   unfold zAP
   rw [qM, show w64 (0 + 1) = 1 from by decide, hm, zA8, jN, decide_eq_false (by omega), cond_false, Option.bind_some]
  refine ⟨xs, ?_, ?_, List.Perm.refl _⟩
  ·unfold zBY
   rw [hm, zB8, qM, ew, e12, cond_true, k1]
   rfl
  ·match xs, h1 with
   | [], _ => exact List.Pairwise.nil
   | [x], _ => exact List.pairwise_singleton _ _
 ·have b1 : Nat.ble xs.length 1 = false := by
   cases h : Nat.ble xs.length 1 with
   | false => rfl
   | true => exact absurd (Nat.le_of_ble_eq_true h) h1
  obtain ⟨r, r1, r2, r3⟩ := ins_val (xs := xs) (by omega) (by omega) hnd
  refine ⟨r, ?_, r2, r3⟩
  rw [b1, cond_false]
  unfold zBv
  rw [hm, jZ, qM, ew, e12, cond_true, r1]
  rfl
end Go.Proofs.YtnheekadeflecaaGreat
namespace Go.Proofs.YtnheekadeflecaaGreat
def dd (P : F3 → Bool) (H : F3 → F3) : List F3 → List F3 → List F3
 | [], acc => acc
 | x :: xs, acc => bif P x && !decide (H x ∈ acc) then dd P H xs (acc ++ [H x]) else dd P H xs acc
theorem zJA {P : F3 → Bool} {H : F3 → F3} : ∀ (xs acc : List F3) (h : F3), h ∈ dd P H xs acc ↔ h ∈ acc ∨ ∃ x ∈ xs, P x = true ∧ H x = h
 | [], acc, h => by simp [dd]
 | x :: xs, acc, h => by
  unfold dd
  cases hp : P x with
  | false =>
   rw [Bool.false_and, cond_false, zJA xs acc h]
   constructor
   ·rintro (h1 | ⟨y, h1, h2⟩)
    ·exact .inl h1
    ·exact .inr ⟨y, List.mem_cons_of_mem _ h1, h2⟩
   ·rintro (h1 | ⟨y, h1, h2, h3⟩)
    ·exact .inl h1
    ·rcases List.mem_cons.1 h1 with e | e
     ·subst e; rw [hp] at h2; cases h2
     ·exact .inr ⟨y, e, h2, h3⟩
  | true =>
   rw [Bool.true_and]
   by_cases hm : H x ∈ acc
   ·rw [decide_eq_true hm, Bool.not_true, cond_false, zJA xs acc h]
    constructor
    ·rintro (h1 | ⟨y, h1, h2⟩)
     ·exact .inl h1
     ·exact .inr ⟨y, List.mem_cons_of_mem _ h1, h2⟩
    ·rintro (h1 | ⟨y, h1, h2, h3⟩)
     ·exact .inl h1
     ·rcases List.mem_cons.1 h1 with e | e
      ·subst e; subst h3; exact .inl hm
      ·exact .inr ⟨y, e, h2, h3⟩
   ·rw [decide_eq_false hm, Bool.not_false, cond_true, zJA xs _ h]
    constructor
    ·rintro (h1 | ⟨y, h1, h2⟩)
     ·rcases List.mem_append.1 h1 with h1 | h1
      ·exact .inl h1
      ·rw [List.mem_singleton] at h1; exact .inr ⟨x, List.mem_cons_self .., hp, h1.symm⟩
     ·exact .inr ⟨y, List.mem_cons_of_mem _ h1, h2⟩
    ·rintro (h1 | ⟨y, h1, h2, h3⟩)
     ·exact .inl (List.mem_append_left _ h1)
     ·rcases List.mem_cons.1 h1 with e | e
      ·subst e; subst h3; exact .inl (List.mem_append_right _ (List.mem_singleton.2 rfl))
      ·exact .inr ⟨y, e, h2, h3⟩
theorem zKM {P : F3 → Bool} {H : F3 → F3} : ∀ (xs acc : List F3), acc.Nodup → (dd P H xs acc).Nodup
 | [], acc, h => h
 | x :: xs, acc, h => by
  unfold dd
  cases hp : (P x && !decide (H x ∈ acc)) with
  | false => rw [cond_false]; exact zKM xs acc h
  | true =>
   rw [cond_true]
   refine zKM xs _ ?_
   rw [Bool.and_eq_true, Bool.not_eq_true', decide_eq_false_iff_not] at hp
   rw [List.nodup_append]
   exact ⟨h, List.pairwise_singleton _ _, fun a ha b hb e => by rw [List.mem_singleton] at hb; rw [e, hb] at ha; exact hp.2 ha⟩
theorem zKN {P : F3 → Bool} {H : F3 → F3} : ∀ (xs acc : List F3), (dd P H xs acc).length ≤ acc.length + xs.length
 | [], acc => by simp [dd]
 | x :: xs, acc => by
  unfold dd
  cases (P x && !decide (H x ∈ acc)) with
  | false => rw [cond_false]; have := zKN (P := P) (H := H) xs acc; simp; omega
  | true => rw [cond_true]; have := zKN (P := P) (H := H) xs (acc ++ [H x]); simp at this ⊢; omega
theorem up_run {f r : F3} {ys : List F3} {bb : Bool} {G H : F3 → F3} {P : F3 → Bool} (hr : qK f = some r) (hG : ∀ x ∈ ys, zQ r (x.1, x.2.1, 0, x.2.2) = some (G x) ∧ qK (G x) = some (H x) ∧ ∃ k, jX (G x) = some k ∧ eqI k 1 = P x) : ∀ (m fu i : Nat) (acc : List F3), i + m = ys.length → m < fu → ys.length ≤ 1000 → acc.length + m ≤ 1000 → jT f (ys, bb) fu (i : Int) acc = some (dd P H (ys.drop i) acc)
 | m, 0, i, acc, _, h, _, _ => by omega
 | m, fu + 1, i, acc, hi, hf, hl, ha => by
  rw [jT]
  simp only []
  rw [jN]
  by_cases h1 : i < ys.length
  ·obtain ⟨g1, g2, k, g3, g4⟩ := hG _ (List.getElem_mem h1)
   obtain ⟨m', rfl⟩ : ∃ k', m = k' + 1 := ⟨m - 1, by omega⟩
   rw [decide_eq_true (by omega), cond_true, zEv h1, List.drop_eq_getElem_cons h1]
   simp only [Option.bind_some, hr, g1, g2, g3, g4]
   rw [has_val _ acc (by omega)]
   unfold dd
   cases hP : P ys[i] with
   | false =>
    rw [cond_false, Option.bind_some, cond_false, Bool.false_and, cond_false, qM, zFn (by omega)]
    exact up_run hr hG m' fu (i + 1) acc (by omega) (by omega) hl (by omega)
   | true =>
    rw [cond_true, Option.bind_some, Option.bind_some, Bool.true_and]
    cases hd : (!decide (H ys[i] ∈ acc)) with
    | false =>
     rw [cond_false, cond_false, qM, zFn (by omega)]
     exact up_run hr hG m' fu (i + 1) acc (by omega) (by omega) hl (by omega)
    | true =>
     rw [cond_true, cond_true, zIr (by simp; omega), Option.bind_some, qM, zFn (by omega)]
     exact up_run hr hG m' fu (i + 1) _ (by omega) (by omega) hl (by simp; omega)
  ·rw [decide_eq_false (by omega), cond_false, List.drop_eq_nil_of_le (by omega)]
   rfl
end Go.Proofs.YtnheekadeflecaaGreat
namespace Go.Proofs.YtnheekadeflecaaGreat
set_option maxRecDepth 100000
def qN : List Nat := [2, 3, 5, 7, 11, 13, 17, 19, 23]
def okLatI (n : Nat) : Bool := zBf (n : Int) == some (lats n, true)
theorem okLatI_all : (qN.all okLatI) = true := by decide +kernel
theorem latsI {n : Nat} (hn : n ∈ qN) : zBf (n : Int) = some (lats n, true) := by
 have := List.all_eq_true.1 okLatI_all n hn
 unfold okLatI at this
 rwa [beq_iff_eq] at this
def okPrQ (n : Nat) : Bool := (j7 (n : Int) == some false) || decide (n ∈ qN)
theorem okPrQ_all : ((List.range 26).all fun n => bif Nat.blt n 2 then true else okPrQ n) = true := by decide +kernel
theorem prQ {p : Int} (h2 : 2 ≤ p) (h25 : p ≤ 25) (h : j7 p = some true) : ∃ n ∈ qN, p = (n : Int) := by
 have h1 := List.all_eq_true.1 okPrQ_all p.toNat (List.mem_range.2 (by omega))
 have e : ((p.toNat : Nat) : Int) = p := by omega
 have e2 : Nat.blt p.toNat 2 = false := by
  cases hb : Nat.blt p.toNat 2 with
  | false => rfl
  | true =>
   have := Nat.le_of_ble_eq_true hb
   omega
 rw [e2, cond_false] at h1
 unfold okPrQ at h1
 rw [e, h, Bool.or_eq_true, decide_eq_true_eq] at h1
 rcases h1 with h1 | h1
 ·cases h1
 ·exact ⟨_, h1, e.symm⟩
theorem qN_bd {n : Nat} (hn : n ∈ qN) : 2 ≤ n ∧ n ≤ 23 := by
 have : ∀ m ∈ qN, 2 ≤ m ∧ m ≤ 23 := by decide
 exact this n hn
theorem zGs {D : Int} {f : F3} (h : PrR D f) : PrRc D f := by
 obtain ⟨h1, h2, h3, h4⟩ := h
 refine ⟨h1, h2, h3, fun k k1 k2 k3 => ?_⟩
 have h5 : k ∣ (Int.gcd f.1 (Int.gcd f.2.1 f.2.2) : Int) := Int.dvd_coe_gcd k1 (Int.dvd_coe_gcd k2 k3)
 rw [h4] at h5
 exact h5
theorem zGq {D : Int} {f : F3} (h : PrRc D f) : PrR D f := by
 obtain ⟨h1, h2, h3, h4⟩ := h
 refine ⟨h1, h2, h3, ?_⟩
 have h5 : ((Int.gcd f.1 (Int.gcd f.2.1 f.2.2) : Nat) : Int) ∣ 1 := h4 _ (Int.gcd_dvd_left _ _) (Int.dvd_trans (Int.gcd_dvd_right _ _) (Int.gcd_dvd_left _ _)) (Int.dvd_trans (Int.gcd_dvd_right _ _) (Int.gcd_dvd_right _ _))
 have h6 := Int.eq_one_of_dvd_one (by omega) h5
 omega
theorem zIT {a b c D : Int} {n : Nat} (hR : Rr a b c D) (n2 : 2 ≤ n) (n23 : n ≤ 23) : ∀ x ∈ lats n, zQ (a, b, c) (x.1, x.2.1, 0, x.2.2) = some (latF a b c x) ∧ Sb ((n : Int) * n * D) (latF a b c x) ∧ (latF a b c x).2.1.natAbs ≤ 1000000 := by
 intro x hx
 have hp : 2 ≤ (n : Int) := by omega
 have key : ∀ g : F3, zQ (a, b, c) (x.1, x.2.1, 0, x.2.2) = some g → latF a b c x = g := by
  intro g hg
  unfold latF
  rw [hg]; rfl
 rcases List.mem_cons.1 hx with hx | hx
 ·subst hx
  have hs := sb_k hR (p := (n : Int)) (k := 0) hp (by omega) (by omega) (by omega)
  have hS : zQ (a, b, c) ((1 : Int), (0 : Int), (0 : Int), (n : Int)) = some (gk a b c n 0) := sub_k hR hp (by omega) (by omega) (by omega)
  have e := key _ hS
  rw [e]
  refine ⟨hS, hs, ?_⟩
  have : ((n : Int) * b).natAbs ≤ 43 * 25 := qG (by omega) (by have := hR.b1; have := hR.b2; have := hR.a2; omega)
  show ((n : Int) * (b + 2 * c * 0)).natAbs ≤ 1000000
  rw [show (n : Int) * (b + 2 * c * 0) = n * b by rw [Int.mul_zero, Int.add_zero]]
  omega
 ·obtain ⟨j, hj', rfl⟩ := List.mem_map.1 hx
  have hjn := List.mem_range.1 hj'
  obtain ⟨hs, hs2⟩ := sb_j hR (p := (n : Int)) (j := (j : Int)) hp (by omega) (by omega) (by omega)
  have hS : zQ (a, b, c) ((n : Int), (j : Int), (0 : Int), (1 : Int)) = some (hj a b c n j) := sub_j hR hp (by omega) (by omega) (by omega)
  have e := key _ hS
  rw [e]
  exact ⟨hS, hs, hs2⟩
def uH (a b c : Int) (x : F3) : F3 := rd (latF a b c x)
def uP (a b c : Int) (x : F3) : Bool := primB (latF a b c x)
def srtB : List F3 → Bool
 | [] => true
 | [_] => true
 | x :: y :: l => decide (lt3 x y) && srtB (y :: l)
theorem srtB_ok : ∀ (l : List F3), srtB l = true → l.Pairwise lt3
 | [], _ => List.Pairwise.nil
 | [x], _ => List.pairwise_singleton _ _
 | x :: y :: l, h => by
  unfold srtB at h
  rw [Bool.and_eq_true, decide_eq_true_eq] at h
  have h2 := srtB_ok (y :: l) h.2
  rw [List.pairwise_cons]
  refine ⟨fun z hz => ?_, h2⟩
  rcases List.mem_cons.1 hz with e | e
  ·rw [e]; exact h.1
  ·exact lt3_tr h.1 ((List.pairwise_cons.1 h2).1 z e)
def okSrt (L : List F3) : Bool := bif Nat.ble L.length 12 then true else match zAt L with
 | some r => r.isPerm L && srtB r
 | none => false
def okBig (n : Nat) (f : F3) : Bool := bif Nat.ble ((n * n) * (f.2.1 * f.2.1 - 4 * f.1 * f.2.2).natAbs) 2000 then okSrt (dd (uP f.1 f.2.1 f.2.2) (uH f.1 f.2.1 f.2.2) (lats n) []) else true
theorem okBig_all : (([13, 17, 19, 23] : List Nat).all fun n => ([(1, 0, 1), (1, 0, 2), (1, 1, 1), (1, 1, 2), (1, 1, 3)] : List F3).all (okBig n)) = true := by decide +kernel
theorem small_forms {a b c D : Int} {n : Nat} (h : PrRc D (a, b, c)) (h13 : 13 ≤ n) (hD : D < 0) (hnD : -2000 ≤ (n : Int) * n * D) : (a, b, c) ∈ ([(1, 0, 1), (1, 0, 2), (1, 1, 1), (1, 1, 2), (1, 1, 3)] : List F3) := by
 obtain ⟨h1, ⟨⟨h2, h3⟩, h4⟩, h5, _⟩ := h
 simp only at h1 h2 h3 h4 h5
 have m1 : 13 * 13 ≤ (n : Int) * n := Int.mul_le_mul (by omega) (by omega) (by omega) (by omega)
 have m2 : 13 * 13 * (-D) ≤ (n : Int) * n * (-D) := Int.mul_le_mul_of_nonneg_right m1 (by omega)
 rw [Int.mul_neg ((n : Int) * n) D] at m2
 have hD11 : -11 ≤ D := by omega
 have hc : a ≤ c := by omega
 have k1 : b * b ≤ a * a := by
  rcases Int.le_total 0 b with hb | hb
  ·exact Int.mul_le_mul (by omega) (by omega) hb (by omega)
  ·have := Int.mul_le_mul (a := -b) (b := -b) (c := a) (d := a) (by omega) (by omega) (by omega) (by omega)
   have e : -b * -b = b * b := by grind
   omega
 have k2 : a * a ≤ a * c := Int.mul_le_mul_of_nonneg_left hc (by omega)
 have k3 : 4 * a * c = 4 * (a * c) := by grind
 have ha : a = 1 := by
  rcases Int.lt_or_le 1 a with h6 | h6
  ·have : 2 * 2 ≤ a * a := Int.mul_le_mul (by omega) (by omega) (by omega) (by omega)
   omega
  ·omega
 subst ha
 have hb : b = 0 ∨ b = 1 := by omega
 rcases hb with rfl | rfl
 ·have : c = 1 ∨ c = 2 := by omega
  rcases this with rfl | rfl <;> decide
 ·have : c = 1 ∨ c = 2 ∨ c = 3 := by omega
  rcases this with rfl | rfl | rfl <;> decide
theorem zJf {a b c D : Int} {n : Nat} (hn : n ∈ qN) (h : PrRc D (a, b, c)) (hD : D < 0) (hnD : -2000 ≤ (n : Int) * n * D) : ∃ r, zAt (dd (uP a b c) (uH a b c) (lats n) []) = some r ∧ r.Pairwise lt3 ∧ r.Perm (dd (uP a b c) (uH a b c) (lats n) []) := by
 have hnd := zKM (P := uP a b c) (H := uH a b c) (lats n) [] List.Pairwise.nil
 have hlen := zKN (P := uP a b c) (H := uH a b c) (lats n) []
 have hl : (lats n).length = n + 1 := by simp [lats]
 rw [hl] at hlen
 rcases Nat.lt_or_ge 12 (dd (uP a b c) (uH a b c) (lats n) []).length with h12 | h12
 ·have hn13 : n ∈ ([13, 17, 19, 23] : List Nat) := by
   have : ∀ m ∈ qN, 12 ≤ m → m ∈ ([13, 17, 19, 23] : List Nat) := by decide
   exact this n hn (by simp at hlen; omega)
  have h13 : 13 ≤ n := by
   have : ∀ m ∈ ([13, 17, 19, 23] : List Nat), 13 ≤ m := by decide
   exact this n hn13
  have h1 := List.all_eq_true.1 (List.all_eq_true.1 okBig_all n hn13) _ (small_forms h h13 hD hnD)
  unfold okBig at h1
  have e5 : b * b - 4 * a * c = D := h.2.2.1
  simp only at h1
  rw [e5] at h1
  have hle : n * n * D.natAbs ≤ 2000 := by
   have e : ((n * n * D.natAbs : Nat) : Int) = -((n : Int) * n * D) := by
    rw [Int.natCast_mul, Int.natCast_mul, ← Int.mul_neg]
    congr 1
    omega
   omega
  rw [Nat.ble_eq_true_of_le hle, cond_true] at h1
  unfold okSrt at h1
  have e12 : Nat.ble (dd (uP a b c) (uH a b c) (lats n) []).length 12 = false := by
   cases hb : Nat.ble (dd (uP a b c) (uH a b c) (lats n) []).length 12 with
   | false => rfl
   | true => have := Nat.le_of_ble_eq_true hb; omega
  rw [e12, cond_false] at h1
  split at h1
  ·rename_i r hr
   rw [Bool.and_eq_true, List.isPerm_iff] at h1
   exact ⟨r, hr, srtB_ok r h1.2, h1.1⟩
  ·cases h1
 ·exact sort_val h12 hnd
theorem lat_in {a b c D : Int} {n : Nat} (hR : Rr a b c D) (n2 : 2 ≤ n) (n23 : n ≤ 23) : ∀ x ∈ lats n, inN (latF a b c x).1 = true ∧ inN (latF a b c x).2.1 = true ∧ inN (latF a b c x).2.2 = true := by
 intro x hx
 obtain ⟨_, ⟨q1, q2, q3, q4, q5, q6, q7⟩, q8⟩ := zIT hR n2 n23 x hx
 rw [zAf, zAf, zAf]
 omega
theorem eq1P (g : F3) : eqI ((Int.gcd g.1 (Int.gcd g.2.1 g.2.2) : Nat) : Int) 1 = primB g := by
 unfold primB
 by_cases h : Int.gcd g.1 (Int.gcd g.2.1 g.2.2) = 1
 ·rw [h, decide_eq_true rfl]; rfl
 ·rw [decide_eq_false h]; exact zDi (by omega)
theorem up_i {a b c D : Int} {n : Nat} {f : F3} (hn : n ∈ qN) (hpr : PrRc D (a, b, c)) (hD1 : -2000 ≤ D) (hD : D < 0) (hnD : -2000 ≤ (n : Int) * n * D) (kr : qK f = some (a, b, c)) :
  ∃ u, ((jT f (lats n, true) FU 0 []).bind fun o => zAt o) = some u ∧ u.length ≤ 1000 ∧ u.Pairwise lt3 ∧ ∀ h, h ∈ u ↔ ∃ x ∈ lats n, uP a b c x = true ∧ uH a b c x = h := by
 have hF := FUge
 obtain ⟨n2, n23⟩ := qN_bd hn
 have hR : Rr a b c D := rr_of hD1 hD hpr
 have hp : 2 ≤ (n : Int) := by omega
 have hDp : (n : Int) * n * D < 0 := zCO hp hD
 have m4 : 2 * 2 ≤ (n : Int) * n := Int.mul_le_mul hp hp (by omega) (by omega)
 have m5 : 2 * 2 * (-D) ≤ (n : Int) * n * (-D) := Int.mul_le_mul_of_nonneg_right m4 (by omega)
 rw [Int.mul_neg ((n : Int) * n) D] at m5
 have hD3 : (n : Int) * n * D ≤ -3 := by omega
 have he := zIT hR n2 n23
 have hin := lat_in hR n2 n23
 have hll : (lats n).length = n + 1 := by simp [lats]
 have e0 : (((0 : Nat) : Int)) = 0 := rfl
 have i1 := up_run (bb := true) (G := latF a b c) (H := uH a b c) (P := uP a b c) (ys := lats n) kr (fun x hx => by
  obtain ⟨q1, q2, q3⟩ := he x hx
  obtain ⟨w1, w2, w3⟩ := hin x hx
  exact ⟨q1, (rd_ok q2 hDp).1, _, zEN w1 w2 w3, eq1P _⟩) (lats n).length FU 0 [] (by omega) (by omega) (by omega) (by simp; omega)
 rw [e0, List.drop_zero] at i1
 obtain ⟨r, r1, r2, r3⟩ := zJf hn hpr hD hnD
 have hlen := zKN (P := uP a b c) (H := uH a b c) (lats n) []
 rw [hll] at hlen
 refine ⟨r, by rw [i1, Option.bind_some, r1], by rw [r3.length_eq]; simp at hlen; omega, r2, fun h => ?_⟩
 rw [r3.mem_iff, zJA]
 exact ⟨fun h => h.elim (fun h => by cases h) id, .inr⟩
end Go.Proofs.YtnheekadeflecaaGreat
namespace Go.Proofs.YtnheekadeflecaaGreat
theorem sqm (b : Int) : b * b % 4 ≤ 1 := by
 obtain ⟨k, hk⟩ : ∃ k, k = b / 2 := ⟨_, rfl⟩
 have h : b % 2 = 0 ∨ b % 2 = 1 := by omega
 rcases h with h | h
 ·have e : b = 2 * k := by omega
  have e2 : b * b = 4 * (k * k) := by rw [e]; grind
  omega
 ·have e : b = 2 * k + 1 := by omega
  have e2 : b * b = 4 * (k * k + k) + 1 := by rw [e]; grind
  omega
structure Upd (f : F3) (p : Int) (D a b c : Int) (n : Nat) : Prop where
  cls : qC f = some true
  dis : f.2.1 * f.2.1 - 4 * f.1 * f.2.2 = D
  dv : zY f = some D
  sd : jD f = some D
  iup : j9 D p = some true
  sup : zCA D p = some true
  prm : j7 p = some true
  hn : n ∈ qN
  pn : p = (n : Int)
  D1 : -2000 ≤ D
  D2 : D ≤ -3
  D4 : D % 4 ≤ 1
  nD : -2000 ≤ (n : Int) * n * D
  w : w64 (w64 (D * p) * p) = (n : Int) * n * D
  pr : PrRc D (a, b, c)
  kr : qK f = some (a, b, c)
  ks : zCF f = some (a, b, c)
  cf : CF D f
theorem upd_cases (f : F3) (p : Int) : (∃ cb, qC f = some cb ∧ zBB f = some cb ∧ (cb = false ∨ ∃ D, zY f = some D ∧ jD f = some D ∧ j9 D p = some false ∧ zCA D p = some false)) ∨ ∃ D a b c n, Upd f p D a b c n := by
 obtain ⟨cb, hcb⟩ := class_some f
 have hcs : zBB f = some cb := by rw [class_val, hcb]
 cases cb with
 | false => exact .inl ⟨false, hcb, hcs, .inl rfl⟩
 | true =>
  have hf := cfc_of hcb
  generalize hdis : f.2.1 * f.2.1 - 4 * f.1 * f.2.2 = D at hf
  obtain ⟨ha, hb, hc, hneg, hbig, hpos, _⟩ := zFS (a := f.1) (b := f.2.1) (c := f.2.2) hcb
  rw [hdis] at hneg hbig
  have hm : D % 4 ≤ 1 := by
   have := sqm f.2.1
   have k4 : 4 * f.1 * f.2.2 = 4 * (f.1 * f.2.2) := by grind
   omega
  have hdv : zY f = some D := by
   have := zKL ha hb hc
   rw [hdis] at this
   exact this
  have hsd : jD f = some D := by rw [zI1]; exact hdv
  rcases lf_cases D p ⟨hbig, by omega, hm⟩ with ⟨u1, u2⟩ | ⟨u1, u2, u3, u4, u5, u6, u7⟩
  ·exact .inl ⟨true, hcb, hcs, .inr ⟨D, hdv, hsd, u2, u1⟩⟩
  ·obtain ⟨n, hn, rfl⟩ := prQ u5 u6 u3
   obtain ⟨⟨a, b, c⟩, m1, m2, m3, m4, k1, k2, k3, _⟩ := red_cf hf.2.2.1
   have e : (n : Int) * n * D = D * n * n := by grind
   exact .inr ⟨D, a, b, c, n, hcb, hdis, hdv, hsd, u2, u1, u3, hn, rfl, hbig, by omega, hm, by rw [e]; exact u7, by rw [u4, e], k3, by simp only [qK, k1, Option.bind_some], by simp only [zCF, k2, Option.bind_some], hf.2.2.1⟩
theorem upper_up_i {f : F3} {p D a b c : Int} {n : Nat} (h : Upd f p D a b c n) : ∃ u, zAR f p = some (u, true) ∧ u.length ≤ 1000 ∧ u.Pairwise lt3 ∧ ∀ g, g ∈ u ↔ ∃ x ∈ lats n, uP a b c x = true ∧ uH a b c x = g := by
 have hD : D < 0 := by have := h.D2; omega
 obtain ⟨u, i1, u1, u2, u3⟩ := up_i h.hn h.pr h.D1 hD h.nD h.kr
 have q1 := latsI h.hn
 have hp := h.pn
 have hiup := h.iup
 subst hp
 refine ⟨u, ?_, u1, u2, u3⟩
 simp only [zAR, h.cls, h.dv, hiup, Option.bind_some, Bool.not_true, cond_false, q1]
 rw [← Option.bind_assoc, i1, Option.bind_some]
theorem upper_not_i {f : F3} {p : Int} (h : ∃ cb, qC f = some cb ∧ zBB f = some cb ∧ (cb = false ∨ ∃ D, zY f = some D ∧ jD f = some D ∧ j9 D p = some false ∧ zCA D p = some false)) : zAR f p = some ([], false) := by
 obtain ⟨cb, h1, h2, h3 | ⟨D, d1, d2, d3, d4⟩⟩ := h
 ·subst h3
  simp only [zAR, h1, Option.bind_some, Bool.not_false, cond_true]
 ·cases cb with
  | false => simp only [zAR, h1, Option.bind_some, Bool.not_false, cond_true]
  | true => simp only [zAR, h1, d1, d3, Option.bind_some, Bool.not_true, Bool.not_false, cond_true, cond_false]
theorem q_sub {n : Nat} (hn : n ∈ qN) : n ∈ pN := by
 have : ∀ m ∈ qN, m ∈ pN := by decide
 exact this n hn
theorem mat_hnf {n : Nat} (hn : n ∈ pN) {n1 n2 n3 n4 : Int} (hdet : n1 * n4 - n2 * n3 = (n : Int)) : ∃ x ∈ lats n, ∃ u1 u2 u3 u4, u1 * u4 - u2 * u3 = 1 ∧ n1 = x.1 * u1 + x.2.1 * u3 ∧ n2 = x.1 * u2 + x.2.1 * u4 ∧ n3 = x.2.2 * u3 ∧ n4 = x.2.2 * u4 := by
 obtain ⟨n2', n43⟩ := pN_bd hn
 have d3 : ((Int.gcd n3 n4 : Nat) : Int) ∣ n3 := Int.gcd_dvd_left _ _
 have d4 : ((Int.gcd n3 n4 : Nat) : Int) ∣ n4 := Int.gcd_dvd_right _ _
 have dn : ((Int.gcd n3 n4 : Nat) : Int) ∣ (n : Int) := by
  rw [← hdet]
  exact Int.dvd_sub (Int.dvd_mul_of_dvd_right d4) (Int.dvd_mul_of_dvd_right d3)
 rcases pN_prime hn (Int.natCast_dvd_natCast.1 dn) with hd | hd
 ·obtain ⟨s, t, hst⟩ := bez_int n3 n4
  rw [hd] at hst
  have hst' : s * n3 + t * n4 = 1 := hst
  obtain ⟨w1, hw1⟩ : ∃ w1, w1 = n1 - n * t := ⟨_, rfl⟩
  obtain ⟨w2, hw2⟩ : ∃ w2, w2 = n2 + n * s := ⟨_, rfl⟩
  obtain ⟨m, hm⟩ : ∃ m, m = s * w1 + t * w2 := ⟨_, rfl⟩
  have hpar : w1 * n4 - w2 * n3 = 0 := by
   have e : w1 * n4 - w2 * n3 = (n1 * n4 - n2 * n3) - n * (s * n3 + t * n4) := by rw [hw1, hw2]; grind
   rw [e, hdet, hst']; omega
  have hm1 : m * n3 = w1 := by
   have e : m * n3 = w1 * (s * n3 + t * n4) - t * (w1 * n4 - w2 * n3) := by rw [hm]; grind
   rw [e, hst', hpar]; omega
  have hm2 : m * n4 = w2 := by
   have e : m * n4 = w2 * (s * n3 + t * n4) + s * (w1 * n4 - w2 * n3) := by rw [hm]; grind
   rw [e, hst', hpar]; omega
  have hn0 : (n : Int) ≠ 0 := by omega
  have j0 := Int.emod_nonneg m hn0
  have j1 := Int.emod_lt_of_pos m (show 0 < (n : Int) by omega)
  have hj : ((m % n).toNat : Int) = m % n := by omega
  have hme : m = n * (m / n) + m % n := by have := Int.mul_ediv_add_emod m n; omega
  generalize m / (n : Int) = e at hme
  generalize hr : m % (n : Int) = r at *
  refine ⟨((n : Int), ((r.toNat : Nat) : Int), 1), List.mem_cons_of_mem _ (List.mem_map.2 ⟨r.toNat, List.mem_range.2 (by omega), rfl⟩), t + e * n3, -s + e * n4, n3, n4, ?_, ?_, ?_, ?_, ?_⟩
  ·have : (t + e * n3) * n4 - (-s + e * n4) * n3 = s * n3 + t * n4 := by grind
   rw [this, hst']
  ·show n1 = n * (t + e * n3) + ((r.toNat : Nat) : Int) * n3
   rw [hj]
   have : n * (t + e * n3) + r * n3 = n * t + (n * e + r) * n3 := by grind
   rw [this, ← hme, hm1, hw1]; omega
  ·show n2 = n * (-s + e * n4) + ((r.toNat : Nat) : Int) * n4
   rw [hj]
   have : n * (-s + e * n4) + r * n4 = -(n * s) + (n * e + r) * n4 := by grind
   rw [this, ← hme, hm2, hw2]; omega
  ·show n3 = 1 * n3; omega
  ·show n4 = 1 * n4; omega
 ·rw [hd] at d3 d4
  obtain ⟨u3, h3⟩ := d3
  obtain ⟨u4, h4⟩ := d4
  refine ⟨(1, 0, (n : Int)), List.mem_cons_self .., n1, n2, u3, u4, ?_, ?_, ?_, h3, h4⟩
  ·have e : (n : Int) * (n1 * u4 - n2 * u3) = n * 1 := by
    rw [Int.mul_one]
    refine Eq.trans ?_ hdet
    rw [h3, h4]; grind
   exact Int.eq_of_mul_eq_mul_left (by omega) e
  ·show n1 = 1 * n1 + 0 * u3; omega
  ·show n2 = 1 * n2 + 0 * u4; omega
theorem lat_fv {a b c D : Int} {n : Nat} (hR : Rr a b c D) (n2 : 2 ≤ n) (n43 : n ≤ 23) : ∀ x ∈ lats n, ∀ X Y, FV (latF a b c x) X Y = FV (a, b, c) (x.1 * X + x.2.1 * Y) (x.2.2 * Y) := by
 intro x hx X Y
 have hp : 2 ≤ (n : Int) := by omega
 have key : ∀ g : F3, zQ (a, b, c) (x.1, x.2.1, 0, x.2.2) = some g → latF a b c x = g := by
  intro g hg
  unfold latF
  rw [hg]; rfl
 rcases List.mem_cons.1 hx with hx | hx
 ·subst hx
  have hS : zQ (a, b, c) ((1 : Int), (0 : Int), (0 : Int), (n : Int)) = some (gk a b c n 0) := sub_k hR hp (by omega) (by omega) (by omega)
  rw [key _ hS]
  simp only [FV, gk]
  grind
 ·obtain ⟨j, hj', rfl⟩ := List.mem_map.1 hx
  have hjn := List.mem_range.1 hj'
  have hS : zQ (a, b, c) ((n : Int), (j : Int), (0 : Int), (1 : Int)) = some (hj a b c n j) := sub_j hR hp (by omega) (by omega) (by omega)
  rw [key _ hS]
  simp only [FV, hj]
  grind
theorem eqf_refl (f : F3) : Eqf f f := ⟨1, 0, 0, 1, by decide, by grind, by grind, by grind⟩
theorem eqf_of_fv {f g : F3} {u1 u2 u3 u4 : Int} (hdet : u1 * u4 - u2 * u3 = 1) (h : ∀ X Y, FV f X Y = FV g (u1 * X + u2 * Y) (u3 * X + u4 * Y)) : Eqf f g := by
 have h10 := h 1 0
 have h01 := h 0 1
 have h11 := h 1 1
 simp only [FV] at h10 h01 h11
 have e1 : f.1 = g.1 * u1 * u1 + g.2.1 * u1 * u3 + g.2.2 * u3 * u3 := by grind
 have e3 : f.2.2 = g.1 * u2 * u2 + g.2.1 * u2 * u4 + g.2.2 * u4 * u4 := by grind
 refine ⟨u1, u2, u3, u4, hdet, e1, ?_, e3⟩
 have e2 : f.2.1 = (f.1 * 1 * 1 + f.2.1 * 1 * 1 + f.2.2 * 1 * 1) - f.1 - f.2.2 := by grind
 rw [e2, h11, e1, e3]
 grind
theorem prim_gcd {f : F3} (h : ∀ k : Int, k ∣ f.1 → k ∣ f.2.1 → k ∣ f.2.2 → k ∣ 1) : primB f = true := by
 have h5 : ((Int.gcd f.1 (Int.gcd f.2.1 f.2.2) : Nat) : Int) ∣ 1 := h _ (Int.gcd_dvd_left _ _) (Int.dvd_trans (Int.gcd_dvd_right _ _) (Int.gcd_dvd_left _ _)) (Int.dvd_trans (Int.gcd_dvd_right _ _) (Int.gcd_dvd_right _ _))
 have h6 := Int.eq_one_of_dvd_one (by omega) h5
 exact decide_eq_true (by omega)
theorem up_of_val {a b c D : Int} {n : Nat} (hn : n ∈ qN) (hR : Rr a b c D) {g : F3} (hg : PrRc ((n : Int) * n * D) g) {n1 n2 n3 n4 : Int} (hv : ∀ X Y, FV (a, b, c) (n1 * X + n2 * Y) (n3 * X + n4 * Y) = FV g X Y) (hdet : n1 * n4 - n2 * n3 = (n : Int)) : ∃ x ∈ lats n, uP a b c x = true ∧ uH a b c x = g := by
 obtain ⟨n2', n23⟩ := qN_bd hn
 obtain ⟨x, hx, u1, u2, u3, u4, hu, e1, e2, e3, e4⟩ := mat_hnf (q_sub hn) hdet
 have hfv := lat_fv hR n2' n23 x hx
 have hs := (zIT hR n2' n23 x hx).2.1
 have hD : (n : Int) * n * D < 0 := zCO (by omega) hR.D2
 have he : Eqf g (latF a b c x) := eqf_of_fv hu fun X Y => by
  rw [hfv, ← hv, e1, e2, e3, e4]
  congr 1 <;> grind
 obtain ⟨r1, _, r3, r4, r5, _⟩ := rd_ok hs hD
 refine ⟨x, hx, prim_gcd (zIQ (zKH he) hg.2.2.2), ?_⟩
 exact red_same r3 ⟨hg.1, hg.2.1⟩ r5 (eqf_refl g) (zKH he) (by have := hs.a1; omega) (by have := hg.1; omega) (by rw [show fD g = (n : Int) * n * D from hg.2.2.1]; exact hD)
theorem dn_of_up {a b c D : Int} {n : Nat} (hn : n ∈ qN) (hp : 2 ≤ (n : Int)) (hR : Rr a b c D) {x : F3} (hx : x ∈ lats n) (hP : uP a b c x = true) : PrRc ((n : Int) * n * D) (uH a b c x) ∧ gDn hp hR.D2 (gC ((n : Int) * n * D) (zCO hp hR.D2) (uH a b c x)) = gC D hR.D2 (a, b, c) := by
 obtain ⟨n2', n23⟩ := qN_bd hn
 have hs := (zIT hR n2' n23 x hx).2.1
 have hD : (n : Int) * n * D < 0 := zCO hp hR.D2
 obtain ⟨r1, _, r3, r4, r5, _⟩ := rd_ok hs hD
 have hpr := zIQ r5 (prim_of hP)
 exact ⟨⟨r3.1, r3.2, r4, hpr⟩, up_cls hR (q_sub hn) hp ((lat_cls hR (q_sub hn)).mem_iff.1 (List.mem_map.2 ⟨x, hx, rfl⟩)) (prim_gcd hpr)⟩
def desF (n : Nat) (e : F3) : F3 := ((zBe e (n : Int)).getD (e, (0, 0, 0, 0))).1
theorem pd_of {n : Nat} {D : Int} (hn : n ∈ qN) (hD1 : -2000 ≤ D) (hD : D < 0) (h4 : D % 4 ≤ 1) (hnD : -2000 ≤ (n : Int) * n * D) : Pd (n : Int) D := by
 obtain ⟨n2, n23⟩ := qN_bd hn
 have ho : (n : Int) = 2 ∨ (n : Int) % 2 = 1 := by
  have : ∀ m ∈ qN, m = 2 ∨ m % 2 = 1 := by decide
  rcases this n hn with h | h <;> omega
 exact ⟨by omega, by omega, ho, hnD, hD1, hD, h4⟩
theorem fl_run {so : F3 → Option Bool} {M : List F3} {P : F3 → Bool} (h : ∀ e ∈ M, so e = some (P e)) : ∀ (m fu i : Nat) (acc : List F3), i + m = M.length → m < fu → M.length ≤ 100000 → acc.length + m ≤ 100000 → zAb so M fu (i : Int) acc = some (acc ++ (M.drop i).filter P)
 | m, 0, i, acc, _, hf, _, _ => by omega
 | m, fu + 1, i, acc, hi, hf, hl, ha => by
  rw [zAb, jN]
  by_cases h1 : i < M.length
  ·obtain ⟨m', rfl⟩ : ∃ k', m = k' + 1 := ⟨m - 1, by omega⟩
   rw [decide_eq_true (by omega), cond_true, zEv h1, List.drop_eq_getElem_cons h1, List.filter_cons]
   simp only [Option.bind_some, h _ (List.getElem_mem h1)]
   cases hP : P M[i] with
   | true =>
    rw [cond_true, zIr (by simp; omega), Option.bind_some, qM, zFn (by omega), fl_run h m' fu (i + 1) _ (by omega) (by omega) hl (by simp; omega), if_pos rfl]
    simp
   | false =>
    rw [cond_false, qM, zFn (by omega), fl_run h m' fu (i + 1) _ (by omega) (by omega) hl (by omega), if_neg (by decide)]
  ·rw [decide_eq_false (by omega), cond_false, List.drop_eq_nil_of_le (by omega)]
   simp
theorem ol_run {g : F3} {p : Int} {M : List F3} {P : F3 → Bool} (h : ∀ e ∈ M, ∃ y, zCC e p = some y ∧ P e = decide (y.1 = g)) : ∀ (m fu i : Nat) (acc : List F3), i + m = M.length → m < fu → M.length ≤ 100000 → acc.length + m ≤ 100000 → zBD g p M fu (i : Int) acc = some (acc ++ (M.drop i).filter P)
 | m, 0, i, acc, _, hf, _, _ => by omega
 | m, fu + 1, i, acc, hi, hf, hl, ha => by
  rw [zBD, jN]
  by_cases h1 : i < M.length
  ·obtain ⟨m', rfl⟩ : ∃ k', m = k' + 1 := ⟨m - 1, by omega⟩
   obtain ⟨y, y1, y2⟩ := h _ (List.getElem_mem h1)
   rw [decide_eq_true (by omega), cond_true, zEv h1, List.drop_eq_getElem_cons h1, List.filter_cons]
   simp only [Option.bind_some, y1]
   rw [eqB_iff, ← y2]
   cases hP : P M[i] with
   | true =>
    rw [cond_true, zIr (by simp; omega), Option.bind_some, qM, zFn (by omega), ol_run h m' fu (i + 1) _ (by omega) (by omega) hl (by simp; omega), if_pos rfl]
    simp
   | false =>
    rw [cond_false, qM, zFn (by omega), ol_run h m' fu (i + 1) _ (by omega) (by omega) hl (by omega), if_neg (by decide)]
  ·rw [decide_eq_false (by omega), cond_false, List.drop_eq_nil_of_le (by omega)]
   simp
theorem zHy {a b c D : Int} {n : Nat} (hn : n ∈ qN) (hpr : PrRc D (a, b, c)) (hD1 : -2000 ≤ D) (hD : D < 0) (h4 : D % 4 ≤ 1) (hnD : -2000 ≤ (n : Int) * n * D) (hw : w64 (w64 (D * n) * n) = (n : Int) * n * D) {M : List F3} (hM : zAA ((n : Int) * n * D) = some M) :
  zCw (a, b, c) (n : Int) = some (M.filter fun e => decide (desF n e = (a, b, c))) ∧ zD0 (a, b, c) (n : Int) = some (M.filter fun e => decide (desF n e = (a, b, c))) ∧ (M.filter fun e => decide (desF n e = (a, b, c))).length ≤ 1000 ∧
  (∀ e ∈ M, ∃ N, zBe e (n : Int) = some (desF n e, N) ∧ PrRc D (desF n e) ∧ PrRc ((n : Int) * n * D) e) ∧ ∀ e, e ∈ (M.filter fun e => decide (desF n e = (a, b, c))) ↔ ∃ x ∈ lats n, uP a b c x = true ∧ uH a b c x = e := by
 have hF := FUge
 obtain ⟨n2, n23⟩ := qN_bd hn
 have hp : 2 ≤ (n : Int) := by omega
 have hR : Rr a b c D := rr_of hD1 hD hpr
 have hP := pd_of hn hD1 hD h4 hnD
 have hDp : (n : Int) * n * D < 0 := zCO hp hD
 have m4 : 2 * 2 ≤ (n : Int) * n := Int.mul_le_mul hp hp (by omega) (by omega)
 have m5 : 2 * 2 * (-D) ≤ (n : Int) * n * (-D) := Int.mul_le_mul_of_nonneg_right m4 (by omega)
 rw [Int.mul_neg ((n : Int) * n) D] at m5
 have hD3 : (n : Int) * n * D ≤ -3 := by omega
 obtain ⟨M', l1, l2, l3, l4⟩ := zGG hnD hD3
 rw [hM] at l1
 obtain rfl := zB l1
 have msrt := zJr hnD hD3 hM
 have hdes : ∀ e ∈ M, ∃ g n1 n2 n3 n4, Dsc (n : Int) D e g n1 n2 n3 n4 ∧ desF n e = g ∧ PrRc ((n : Int) * n * D) e := by
  intro e he
  have hpe := zGs ((l3 e).1 he)
  obtain ⟨g, n1, n2, n3, n4, k⟩ := dsc_mk hP (cf_of_prc hnD hDp hpe)
  exact ⟨g, n1, n2, n3, n4, k, by unfold desF; rw [k.i]; rfl, hpe⟩
 have hcl := (zI3 hD1 hD hpr).2
 have hidisc : zY (a, b, c) = some D := hcl
 have hsdisc : jD (a, b, c) = some D := by rw [zI1]; exact hidisc
 have e0 : (((0 : Nat) : Int)) = 0 := rfl
 have q1 := fl_run (so := fun x0 => zD6 x0 (n : Int) (a, b, c)) (M := M) (P := fun e => decide (desF n e = (a, b, c))) (fun e he => by
  obtain ⟨g, n1, n2, n3, n4, k, k1, _⟩ := hdes e he
  simp only [zD6, k.i, Option.bind_some]
  rw [k1]
  exact congrArg some (eqB_iff g (a, b, c))) M.length FU 0 [] (by omega) (by omega) (by omega) (by simp; omega)
 have q2 := ol_run (g := (a, b, c)) (p := (n : Int)) (M := M) (P := fun e => decide (desF n e = (a, b, c))) (fun e he => by
  obtain ⟨g, n1, n2, n3, n4, k, k1, _⟩ := hdes e he
  exact ⟨_, k.s, by rw [k1]⟩) M.length FU 0 [] (by omega) (by omega) (by omega) (by simp; omega)
 rw [e0, List.drop_zero, List.nil_append] at q1 q2
 have hmem : ∀ e, e ∈ (M.filter fun e => decide (desF n e = (a, b, c))) ↔ ∃ x ∈ lats n, uP a b c x = true ∧ uH a b c x = e := by
  intro e
  rw [List.mem_filter]
  constructor
  ·rintro ⟨he, hd⟩
   obtain ⟨g, n1, n2', n3, n4, k, k1, hpe⟩ := hdes e he
   rw [decide_eq_true_eq, k1] at hd
   subst hd
   exact up_of_val hn hR hpe k.val k.det
  ·rintro ⟨x, hx, h1, h2⟩
   obtain ⟨k1, k2⟩ := dn_of_up hn hp hR hx h1
   rw [h2] at k1 k2
   have he : e ∈ M := (l3 e).2 (zGq k1)
   obtain ⟨g, n1, n2', n3, n4, k, k3, _⟩ := hdes e he
   refine ⟨he, ?_⟩
   rw [decide_eq_true_eq, k3]
   exact prc_eq (hD := hD) k.prc hpr (by rw [k.cls hp hD]; exact k2)
 refine ⟨?_, ?_, ?_, fun e he => ?_, hmem⟩
 ·simp only [zCw, hidisc, zDg, hw, zIy hnD hD3, hM, q1, Option.bind_some]
 ·simp only [zD0, hsdisc, hw, hM, q2, Option.bind_some]
 ·have hnd : (M.filter fun e => decide (desF n e = (a, b, c))).Nodup := List.Pairwise.filter _ l4
  have hsub : (M.filter fun e => decide (desF n e = (a, b, c))).length ≤ (dd (uP a b c) (uH a b c) (lats n) []).length := by
   obtain ⟨r, r1, r2, r3⟩ := zJf hn hpr hD hnD
   have : (M.filter fun e => decide (desF n e = (a, b, c))) = r := zJ2 (List.Pairwise.filter _ msrt) r2 fun x => by
    rw [hmem, r3.mem_iff, zJA]
    exact ⟨.inr, fun h => h.elim (fun h => by cases h) id⟩
   rw [this, r3.length_eq]
   exact Nat.le_refl _
  have := zKN (P := uP a b c) (H := uH a b c) (lats n) []
  have hl : (lats n).length = n + 1 := by simp [lats]
  rw [hl] at this
  simp at this
  omega
 ·obtain ⟨g, n1, n2, n3, n4, k, k1, hpe⟩ := hdes e he
  exact ⟨_, by rw [k1]; exact k.i, by rw [k1]; exact k.prc, hpe⟩
theorem above_len {a b c D : Int} {n : Nat} (hn : n ∈ qN) (hpr : PrRc D (a, b, c)) (hD : D < 0) (hnD : -2000 ≤ (n : Int) * n * D) {F : List F3} (hF : F.Pairwise lt3) (hm : ∀ e, e ∈ F ↔ ∃ x ∈ lats n, uP a b c x = true ∧ uH a b c x = e) : F.length = (dd (uP a b c) (uH a b c) (lats n) []).length := by
 obtain ⟨r, r1, r2, r3⟩ := zJf hn hpr hD hnD
 have : F = r := zJ2 hF r2 fun x => by
  rw [hm, r3.mem_iff, zJA]
  exact ⟨.inr, fun h => h.elim (fun h => by cases h) id⟩
 rw [this, r3.length_eq]
theorem part_len {k : Nat} (φ : F3 → F3) : ∀ (L M : List F3), L.Nodup → (∀ e ∈ M, φ e ∈ L) → (∀ f ∈ L, (M.filter fun e => decide (φ e = f)).length = k) → M.length = L.length * k
 | [], M, _, h, _ => by
  cases M with
  | nil => simp
  | cons e M => have := h e (List.mem_cons_self ..); cases this
 | f :: L, M, hnd, h, hk => by
  rw [List.nodup_cons] at hnd
  have h1 := part_len (k := k) φ L (M.filter fun e => !decide (φ e = f)) hnd.2 (fun e he => by
   obtain ⟨he1, he2⟩ := List.mem_filter.1 he
   rcases List.mem_cons.1 (h e he1) with h2 | h2
   ·rw [decide_eq_true h2] at he2; cases he2
   ·exact h2) (fun g hg => by
   rw [List.filter_filter, ← hk g (List.mem_cons_of_mem _ hg)]
   congr 1
   refine List.filter_congr fun e _ => ?_
   by_cases h3 : φ e = g
   ·have : ¬ φ e = f := fun h4 => hnd.1 (by rw [← h4, h3]; exact hg)
    rw [decide_eq_true h3, decide_eq_false this]; rfl
   ·rw [decide_eq_false h3]; rfl)
  have h2 : M.length = (M.filter fun e => decide (φ e = f)).length + (M.filter fun e => !decide (φ e = f)).length := by
   clear h hk h1
   induction M with
   | nil => rfl
   | cons e M ih =>
    rw [List.filter_cons, List.filter_cons, List.length_cons]
    cases decide (φ e = f) with
    | true => simp; omega
    | false => simp; omega
  rw [h2, h1, hk f (List.mem_cons_self ..), List.length_cons, Nat.succ_mul]
  omega
end Go.Proofs.YtnheekadeflecaaGreat
namespace Go.Proofs.YtnheekadeflecaaGreat
set_option maxRecDepth 100000
def fbF (n : Nat) (k : Int) (f : F3) : Bool := sI f.1 fun a => sI f.2.1 fun b => sI f.2.2 fun c => Nat.beq (dd (uP a b c) (uH a b c) (lats n) []).length k.toNat
def fbA (n : Nat) (k : Int) : List F3 → Bool
 | [] => true
 | f :: fs => bif fbF n k f then fbA n k fs else false
def fbD (n : Nat) (D : Int) : Bool := match zAA D, zCj D (n : Int) with
 | some L, some (k, b) => bif b then bif leI 0 k then bif leI k 100 then fbA n k L else false else false else false
 | _, _ => false
def fbR (n : Nat) : Nat → Int → Bool
 | 0, _ => true
 | m + 1, d => bif (bif leI (Int.emod d 4) 1 then fbD n d else true) then sI (d - 1) (fbR n m) else false
theorem fbA_at {n : Nat} {k : Int} : ∀ (L : List F3), fbA n k L = true → ∀ f ∈ L, (dd (uP f.1 f.2.1 f.2.2) (uH f.1 f.2.1 f.2.2) (lats n) []).length = k.toNat
 | [], _, f, hf => by cases hf
 | g :: L, h, f, hf => by
  unfold fbA at h
  cases h1 : fbF n k g with
  | false => rw [h1] at h; cases h
  | true =>
   rw [h1, cond_true] at h
   rcases List.mem_cons.1 hf with e | e
   ·subst e
    unfold fbF at h1
    simp only [qM] at h1
    exact Nat.eq_of_beq_eq_true h1
   ·exact fbA_at L h f e
theorem fbD_at {n : Nat} {D : Int} (h : fbD n D = true) : ∃ L k, zAA D = some L ∧ zCj D (n : Int) = some (k, true) ∧ 0 ≤ k ∧ k ≤ 100 ∧ ∀ f ∈ L, (dd (uP f.1 f.2.1 f.2.2) (uH f.1 f.2.1 f.2.2) (lats n) []).length = k.toNat := by
 unfold fbD at h
 split at h
 ·rename_i L k b h1 h2
  cases b with
  | false => cases h
  | true =>
   rw [cond_true, zAN, zAN] at h
   by_cases h3 : 0 ≤ k
   ·rw [decide_eq_true h3, cond_true] at h
    by_cases h4 : k ≤ 100
    ·rw [decide_eq_true h4, cond_true] at h
     exact ⟨L, k, h1, h2, h3, h4, fbA_at L h⟩
    ·rw [decide_eq_false h4] at h; cases h
   ·rw [decide_eq_false h3] at h; cases h
 ·cases h
theorem zBR {n : Nat} : ∀ (m : Nat) (d0 : Int), fbR n m d0 = true → ∀ d, d ≤ d0 → d0 - m < d → d % 4 ≤ 1 → fbD n d = true
 | 0, d0, _, d, h1, h2, hm => by simp at h2; omega
 | m + 1, d0, h, d, h1, h2, hm => by
  unfold fbR at h
  rw [zAN, qM] at h
  cases h3 : (bif decide (Int.emod d0 4 ≤ 1) then fbD n d0 else true) with
  | false => rw [h3] at h; cases h
  | true =>
   rw [h3, cond_true] at h
   by_cases h4 : d = d0
   ·subst h4
    have e : Int.emod d 4 ≤ 1 := hm
    rw [decide_eq_true e, cond_true] at h3
    exact h3
   ·exact zBR m (d0 - 1) h d (by omega) (by push_cast at h2; omega) hm
theorem fbT_2_0 : fbR 2 40 (-3) = true := by decide +kernel
theorem fbT_2_1 : fbR 2 40 (-43) = true := by decide +kernel
theorem fbT_2_2 : fbR 2 40 (-83) = true := by decide +kernel
theorem fbT_2_3 : fbR 2 40 (-123) = true := by decide +kernel
theorem fbT_2_4 : fbR 2 40 (-163) = true := by decide +kernel
theorem fbT_2_5 : fbR 2 40 (-203) = true := by decide +kernel
theorem fbT_2_6 : fbR 2 40 (-243) = true := by decide +kernel
theorem fbT_2_7 : fbR 2 40 (-283) = true := by decide +kernel
theorem fbT_2_8 : fbR 2 40 (-323) = true := by decide +kernel
theorem fbT_2_9 : fbR 2 40 (-363) = true := by decide +kernel
theorem fbT_2_10 : fbR 2 40 (-403) = true := by decide +kernel
theorem fbT_2_11 : fbR 2 40 (-443) = true := by decide +kernel
theorem fbT_2_12 : fbR 2 18 (-483) = true := by decide +kernel
theorem fbT_3_0 : fbR 3 40 (-3) = true := by decide +kernel
theorem fbT_3_1 : fbR 3 40 (-43) = true := by decide +kernel
theorem fbT_3_2 : fbR 3 40 (-83) = true := by decide +kernel
theorem fbT_3_3 : fbR 3 40 (-123) = true := by decide +kernel
theorem fbT_3_4 : fbR 3 40 (-163) = true := by decide +kernel
theorem fbT_3_5 : fbR 3 20 (-203) = true := by decide +kernel
theorem fbT_5_0 : fbR 5 40 (-3) = true := by decide +kernel
theorem fbT_5_1 : fbR 5 38 (-43) = true := by decide +kernel
theorem fbT_7_0 : fbR 7 38 (-3) = true := by decide +kernel
theorem fbT_11_0 : fbR 11 14 (-3) = true := by decide +kernel
theorem fbT_13_0 : fbR 13 9 (-3) = true := by decide +kernel
theorem fbT_17_0 : fbR 17 4 (-3) = true := by decide +kernel
theorem fbT_19_0 : fbR 19 3 (-3) = true := by decide +kernel
theorem fbT_23_0 : fbR 23 1 (-3) = true := by decide +kernel
theorem fb_tab {n : Nat} (hn : n ∈ qN) {D : Int} (h1 : -2000 ≤ (n : Int) * n * D) (h2 : D ≤ -3) (h4 : D % 4 ≤ 1) : fbD n D = true := by
 unfold qN at hn
 simp only [List.mem_cons, List.not_mem_nil, or_false] at hn
 rcases hn with rfl | rfl | rfl | rfl | rfl | rfl | rfl | rfl | rfl
 ·have h1' : -2000 ≤ 4 * D := h1
  by_cases a0 : -43 < D
  ·exact zBR _ _ fbT_2_0 D (by omega) (by push_cast; omega) h4
  by_cases a1 : -83 < D
  ·exact zBR _ _ fbT_2_1 D (by omega) (by push_cast; omega) h4
  by_cases a2 : -123 < D
  ·exact zBR _ _ fbT_2_2 D (by omega) (by push_cast; omega) h4
  by_cases a3 : -163 < D
  ·exact zBR _ _ fbT_2_3 D (by omega) (by push_cast; omega) h4
  by_cases a4 : -203 < D
  ·exact zBR _ _ fbT_2_4 D (by omega) (by push_cast; omega) h4
  by_cases a5 : -243 < D
  ·exact zBR _ _ fbT_2_5 D (by omega) (by push_cast; omega) h4
  by_cases a6 : -283 < D
  ·exact zBR _ _ fbT_2_6 D (by omega) (by push_cast; omega) h4
  by_cases a7 : -323 < D
  ·exact zBR _ _ fbT_2_7 D (by omega) (by push_cast; omega) h4
  by_cases a8 : -363 < D
  ·exact zBR _ _ fbT_2_8 D (by omega) (by push_cast; omega) h4
  by_cases a9 : -403 < D
  ·exact zBR _ _ fbT_2_9 D (by omega) (by push_cast; omega) h4
  by_cases a10 : -443 < D
  ·exact zBR _ _ fbT_2_10 D (by omega) (by push_cast; omega) h4
  by_cases a11 : -483 < D
  ·exact zBR _ _ fbT_2_11 D (by omega) (by push_cast; omega) h4
  exact zBR _ _ fbT_2_12 D (by omega) (by push_cast; omega) h4
 ·have h1' : -2000 ≤ 9 * D := h1
  by_cases a0 : -43 < D
  ·exact zBR _ _ fbT_3_0 D (by omega) (by push_cast; omega) h4
  by_cases a1 : -83 < D
  ·exact zBR _ _ fbT_3_1 D (by omega) (by push_cast; omega) h4
  by_cases a2 : -123 < D
  ·exact zBR _ _ fbT_3_2 D (by omega) (by push_cast; omega) h4
  by_cases a3 : -163 < D
  ·exact zBR _ _ fbT_3_3 D (by omega) (by push_cast; omega) h4
  by_cases a4 : -203 < D
  ·exact zBR _ _ fbT_3_4 D (by omega) (by push_cast; omega) h4
  exact zBR _ _ fbT_3_5 D (by omega) (by push_cast; omega) h4
 ·have h1' : -2000 ≤ 25 * D := h1
  by_cases a0 : -43 < D
  ·exact zBR _ _ fbT_5_0 D (by omega) (by push_cast; omega) h4
  exact zBR _ _ fbT_5_1 D (by omega) (by push_cast; omega) h4
 ·have h1' : -2000 ≤ 49 * D := h1
  exact zBR _ _ fbT_7_0 D (by omega) (by push_cast; omega) h4
 ·have h1' : -2000 ≤ 121 * D := h1
  exact zBR _ _ fbT_11_0 D (by omega) (by push_cast; omega) h4
 ·have h1' : -2000 ≤ 169 * D := h1
  exact zBR _ _ fbT_13_0 D (by omega) (by push_cast; omega) h4
 ·have h1' : -2000 ≤ 289 * D := h1
  exact zBR _ _ fbT_17_0 D (by omega) (by push_cast; omega) h4
 ·have h1' : -2000 ≤ 361 * D := h1
  exact zBR _ _ fbT_19_0 D (by omega) (by push_cast; omega) h4
 ·have h1' : -2000 ≤ 529 * D := h1
  exact zBR _ _ fbT_23_0 D (by omega) (by push_cast; omega) h4
end Go.Proofs.YtnheekadeflecaaGreat
namespace Go.Proofs.YtnheekadeflecaaGreat
structure CurB (k : Nat) (c : List Int × Int × Int) : Prop where
  lo : 0 ≤ c.2.1
  hi : c.2.1 ≤ (k : Int)
  len : c.1.length ≤ 1048576
  by8 : ∀ x ∈ c.1, 0 ≤ x ∧ x ≤ 255
theorem CurB.up {k k2 : Nat} {c : List Int × Int × Int} (h : CurB k c) (hk : k ≤ k2) : CurB k2 c := ⟨h.lo, by have := h.hi; omega, h.len, h.by8⟩
theorem CurB.start {code : List Int} (h1 : code.length ≤ 1048576) (h2 : ∀ x ∈ code, 0 ≤ x ∧ x ≤ 255) : CurB 0 (code, 0, 0) := ⟨Int.le_refl _, Int.le_refl _, h1, h2⟩
theorem big_val {code more : List Int} : zCs code more = some (decide (1048576 < code.length ∨ 1048576 - (code.length : Int) < more.length)) ∨ 1048576 < code.length ∧ zCs code more = some true := by
 by_cases h : 1048576 < code.length
 ·right
  refine ⟨h, ?_⟩
  simp only [zCs, Option.bind_some, jN, decide_eq_true (show (1048576 : Int) < (code.length : Int) by omega), cond_true]
 ·left
  simp only [zCs, Option.bind_some, jN, decide_eq_false (show ¬ (1048576 : Int) < (code.length : Int) by omega), cond_false]
  rw [zW (by omega)]
  congr 1
  simp only [decide_eq_decide]
  omega
theorem big_cases (code more : List Int) : zCs code more = some true ∨ (zCs code more = some false ∧ code.length ≤ 1048576 ∧ more.length ≤ 1048576) := by
 rcases big_val (code := code) (more := more) with h | h
 ·by_cases h1 : 1048576 < code.length ∨ 1048576 - (code.length : Int) < more.length
  ·exact .inl (by rw [h, decide_eq_true h1])
  ·refine .inr ⟨by rw [h, decide_eq_false h1], ?_, ?_⟩ <;> omega
 ·exact .inl h.2
theorem wrap_u8 {x : Int} (h : 0 ≤ x ∧ x ≤ 255) : IntKind.i64.wrap x = x := zIh (by omega)
theorem and255 (a : Int) : 0 ≤ IntKind.i64.wrap (andI .u64 a 255) ∧ IntKind.i64.wrap (andI .u64 a 255) ≤ 255 := by
 have h : 0 ≤ andI .u64 a 255 ∧ andI .u64 a 255 ≤ 255 := by
  unfold andI
  have h1 : (BitVec.ofInt IntKind.u64.bits a &&& BitVec.ofInt IntKind.u64.bits 255).toNat ≤ 255 := by
   rw [BitVec.toNat_and]
   exact Nat.and_le_right
  generalize (BitVec.ofInt IntKind.u64.bits a &&& BitVec.ofInt IntKind.u64.bits 255).toNat = q at h1
  rw [show IntKind.u64.wrap (q : Int) = (q : Int) by
   show (q : Int) % 18446744073709551616 = q
   omega]
  omega
 rw [wrap_u8 h]
 exact h
theorem next_ok {k : Nat} {c : List Int × Int × Int} (h : CurB k c) (hk : k ≤ 1099511627776) : ∃ b c', zBk c = some (b, c') ∧ 0 ≤ b ∧ b ≤ 255 ∧ CurB (k + 1) c' := by
 obtain ⟨xs, p, q⟩ := c
 obtain ⟨h1, h2, h3, h4⟩ := h
 simp only at h1 h2 h3 h4
 have e1 : w64 (p + 1) = p + 1 := zW (by omega)
 have nextB : ∀ q', CurB (k + 1) (xs, p + 1, q') := fun q' => ⟨by show 0 ≤ p + 1; omega, by show p + 1 ≤ ((k + 1 : Nat) : Int); omega, h3, h4⟩
 simp only [zBk, qM, jN, zAN, e1]
 by_cases hp : p < (xs.length : Int)
 ·have hi : p.toNat < xs.length := by omega
  have hg : getI xs p = some xs[p.toNat] := by
   unfold getI
   rw [zAN, decide_eq_true h1, cond_true]
   simp [hi]
  have hb := h4 xs[p.toNat] (List.getElem_mem hi)
  simp only [decide_eq_true hp, cond_true, hg, Option.bind_some, wrap_u8 hb]
  by_cases hl : p + 1 ≤ (xs.length : Int)
  ·simp only [decide_eq_true hl, cond_true]
   exact ⟨_, _, rfl, hb.1, hb.2, nextB _⟩
  ·omega
 ·simp only [decide_eq_false hp, cond_false, Option.bind_some]
  simp only [decide_eq_false (show ¬ p + 1 ≤ (xs.length : Int) by omega), cond_false]
  exact ⟨_, _, rfl, (and255 _).1, (and255 _).2, nextB _⟩
theorem zJc {x n : Int} (hx : 0 ≤ x) (hn : 0 < n) : 0 ≤ x.tmod n ∧ x.tmod n < n := ⟨Int.tmod_nonneg _ hx, Int.tmod_lt_of_pos _ hn⟩
theorem jK {k : Nat} {c : List Int × Int × Int} (n : Int) (h : CurB k c) (hk : k ≤ 1000000000000) : ∃ x c', zN c n = some (x, c') ∧ 0 ≤ x ∧ (n ≤ 1 → x = 0) ∧ (1 < n → x < n) ∧ CurB (k + 2) c' := by
 simp only [zN, zAN, jN]
 by_cases h1 : n ≤ 1
 ·rw [decide_eq_true h1, cond_true]
  exact ⟨0, c, rfl, Int.le_refl _, fun _ => rfl, fun h2 => by omega, h.up (by omega)⟩
 ·rw [decide_eq_false h1, cond_false]
  obtain ⟨b, c1, e1, b1, b2, hc1⟩ := next_ok h (by omega)
  rw [e1, Option.bind_some]
  by_cases h2 : 200 < n
  ·obtain ⟨d, c2, e2, d1, d2, hc2⟩ := next_ok hc1 (by omega)
   simp only [decide_eq_true h2, cond_true, e2, Option.bind_some, qM, zEY (show n ≠ 0 by omega)]
   rw [zW (n := b * 256) (by omega), zW (n := b * 256 + d) (by omega)]
   have := zJc (x := b * 256 + d) (n := n) (by omega) (by omega)
   exact ⟨_, _, rfl, this.1, fun h3 => absurd h3 h1, fun _ => this.2, hc2⟩
  ·simp only [decide_eq_false h2, cond_false, Option.bind_some, qM, zEY (show n ≠ 0 by omega)]
   have := zJc (x := b) (n := n) b1 (by omega)
   exact ⟨_, _, rfl, this.1, fun h3 => absurd h3 h1, fun _ => this.2, hc1.up (by omega)⟩
theorem getI_in {α : Type} {l : List α} {x : Int} (h1 : 0 ≤ x) (h2 : x < (l.length : Int)) : ∃ y, getI l x = some y ∧ y ∈ l := by
 have hi : x.toNat < l.length := by omega
 refine ⟨l[x.toNat], ?_, List.getElem_mem hi⟩
 unfold getI
 rw [zAN, decide_eq_true h1, cond_true]
 simp [hi]
theorem zFZ {k : Nat} {c : List Int × Int × Int} {l : List Int} (hl : l ≠ []) (h : CurB k c) (hk : k ≤ 1000000000000) : ∃ x c', jF c l = some (x, c') ∧ x ∈ l ∧ CurB (k + 2) c' := by
 obtain ⟨x, c1, e1, x1, x2, x3, hc1⟩ := jK (l.length : Int) h hk
 have hp := List.length_pos_iff.2 hl
 obtain ⟨y, e2, hy⟩ := getI_in (l := l) x1 (by
  rcases Nat.lt_or_ge 1 l.length with h1 | h1
  ·exact x3 (by omega)
  ·have := x2 (by omega); omega)
 simp only [jF, e1, Option.bind_some, e2]
 exact ⟨y, c1, rfl, hy, hc1⟩
theorem disc_ok {k : Nat} {c : List Int × Int × Int} (h : CurB k c) (hk : k ≤ 100000000000) : ∃ d c', zBl c = some (d, c') ∧ CurB (k + 4) c' := by
 obtain ⟨y, c1, e1, _, _, _, h1⟩ := jK 16 h (by omega)
 simp only [zBl, e1, Option.bind_some]
 cases eqI y 0 with
 | true =>
  obtain ⟨x, c2, e2, _, h2⟩ := zFZ (l := [-3, -4, -2000, -1999, -1996, -1995, -163, -2001, -2003, -2004, 0, 1, 5, -1, -2, -5, -9223372036854775808]) (by simp) h1 (by omega)
  simp only [cond_true, e2, Option.bind_some]
  exact ⟨x, c2, rfl, h2⟩
 | false =>
  rw [cond_false]
  generalize hj : (bif eqI y 1 then some (eqI y 1) else some (eqI y 2)) = j
  have hj2 : ∃ b, j = some b := by subst hj; cases eqI y 1 <;> exact ⟨_, rfl⟩
  obtain ⟨b, rfl⟩ := hj2
  simp only [Option.bind_some]
  cases b with
  | true =>
   obtain ⟨x, c2, e2, x1, _, x3, h2⟩ := jK 1998 h1 (by omega)
   have x4 := x3 (by omega)
   simp only [cond_true, e2, Option.bind_some, qM, zIZ]
   rw [zW (n := -3 - x) (by omega), zD7 (by omega) (by omega)]
   simp only [Option.bind_some]
   cases ltI 1 ((-3 - x) % 4) with
   | true =>
    simp only [cond_true, zAk]
    cases ltI (w64 (-3 - x - 2)) (-2000) with
    | true => exact ⟨_, c2, rfl, h2⟩
    | false => exact ⟨_, c2, rfl, h2⟩
   | false => exact ⟨_, c2, rfl, h2⟩
  | false =>
   rw [cond_false]
   generalize hj3 : (bif eqI y 3 then some (eqI y 3) else bif eqI y 4 then some (eqI y 4) else some (eqI y 5)) = j3
   have hj4 : ∃ b, j3 = some b := by subst hj3; cases eqI y 3 <;> cases eqI y 4 <;> exact ⟨_, rfl⟩
   obtain ⟨b, rfl⟩ := hj4
   simp only [Option.bind_some]
   cases b with
   | true =>
    obtain ⟨x, c2, e2, _, h2⟩ := zFZ (l := [-84, -420, -231, -260, -455, -520, -660, -1155, -1320, -1380, -1428, -1540, -399, -1092, -1560, -1785]) (by simp) h1 (by omega)
    simp only [cond_true, e2, Option.bind_some]
    exact ⟨x, c2, rfl, h2⟩
   | false =>
    rw [cond_false]
    generalize hj5 : (bif eqI y 6 then some (eqI y 6) else some (eqI y 7)) = j5
    have hj6 : ∃ b, j5 = some b := by subst hj5; cases eqI y 6 <;> exact ⟨_, rfl⟩
    obtain ⟨b, rfl⟩ := hj6
    simp only [Option.bind_some]
    cases b with
    | true =>
     obtain ⟨x, c2, e2, _, _, _, h2⟩ := jK 60 h1 (by omega)
     simp only [cond_true, e2, Option.bind_some, qM]
     exact ⟨_, c2, rfl, h2⟩
    | false =>
     obtain ⟨x, c2, e2, _, _, _, h2⟩ := jK 50 h1 (by omega)
     simp only [cond_false, e2, Option.bind_some, qM]
     exact ⟨_, c2, rfl, h2⟩
theorem one_ok {k : Nat} {c : List Int × Int × Int} (n : Int) (h : CurB k c) (hk : k ≤ 100000000000) : ∃ b c', zAs c n = some (b, c') ∧ CurB (k + 2) c' := by
 obtain ⟨x, c', e, _, _, _, h1⟩ := jK n h (by omega)
 exact ⟨eqI x 0, c', by simp only [zAs, e, Option.bind_some], h1⟩
theorem zHk (m n : Int × Int × Int × Int) : ∃ y, jB m n = some y := by
 simp only [jB, qM]
 exact ⟨_, rfl⟩
theorem foAct_some (f : Int × Int × Int) (m : Int × Int × Int × Int) : ∃ y, zCZ f m = some y := by
 simp only [zCZ, zBH, zCh, qM, Option.bind_some]
 exact ⟨_, rfl⟩
theorem zGJ : ∀ (m fu k : Nat) (t : Int) (a b c d : Int) (cu : List Int × Int × Int), CurB k cu → k + 4 * m ≤ 100000000000 → t ≤ m → m < fu →
  ∃ p q r s c', qY fu t a b c d cu.1 cu.2.1 cu.2.2 = some (p, q, r, s, c') ∧ CurB (k + 4 * m) c'
 | m, 0, k, t, a, b, c, d, cu, _, _, _, h => by omega
 | 0, fu + 1, k, t, a, b, c, d, cu, hc, hk, ht, hf => by
  rw [qY, jN, decide_eq_false (by omega), cond_false]
  exact ⟨_, _, _, _, _, rfl, hc⟩
 | m + 1, fu + 1, k, t, a, b, c, d, cu, hc, hk, ht, hf => by
  rw [qY, jN]
  by_cases h0 : 0 < t
  ·obtain ⟨x, c1, e1, _, _, _, h1⟩ := jK 9 hc (by omega)
   obtain ⟨y, c2, e2, _, _, _, h2⟩ := jK 3 h1 (by omega)
   have e1' : zN (cu.1, cu.2.1, cu.2.2) 9 = some (x, c1) := e1
   rw [decide_eq_true h0, cond_true, e1']
   simp only [Option.bind_some, qM, e2]
   have hw : w64 (t - 1) ≤ (m : Int) := by rw [zW (by omega)]; omega
   cases eqI y 0 with
   | true =>
    obtain ⟨z, hz⟩ := zHk (a, b, c, d) (1, w64 (x - 4), 0, 1)
    rw [cond_true, hz, Option.bind_some]
    obtain ⟨p, q, r, s, c', g1, g2⟩ := zGJ m fu (k + 4) (w64 (t - 1)) z.1 z.2.1 z.2.2.1 z.2.2.2 c2 (h2.up (by omega)) (by omega) hw (by omega)
    exact ⟨p, q, r, s, c', g1, g2.up (by omega)⟩
   | false =>
    rw [cond_false]
    cases eqI y 1 with
    | true =>
     obtain ⟨z, hz⟩ := zHk (a, b, c, d) (1, 0, w64 (x - 4), 1)
     rw [cond_true, hz, Option.bind_some]
     obtain ⟨p, q, r, s, c', g1, g2⟩ := zGJ m fu (k + 4) (w64 (t - 1)) z.1 z.2.1 z.2.2.1 z.2.2.2 c2 (h2.up (by omega)) (by omega) hw (by omega)
     exact ⟨p, q, r, s, c', g1, g2.up (by omega)⟩
    | false =>
     obtain ⟨z, hz⟩ := zHk (a, b, c, d) (0, -1, 1, 0)
     rw [cond_false, hz, Option.bind_some]
     obtain ⟨p, q, r, s, c', g1, g2⟩ := zGJ m fu (k + 4) (w64 (t - 1)) z.1 z.2.1 z.2.2.1 z.2.2.2 c2 (h2.up (by omega)) (by omega) hw (by omega)
     exact ⟨p, q, r, s, c', g1, g2.up (by omega)⟩
  ·rw [decide_eq_false h0, cond_false]
   exact ⟨_, _, _, _, _, rfl, hc.up (by omega)⟩
theorem proper_ok {k : Nat} {c : List Int × Int × Int} (h : CurB k c) (hk : k ≤ 10000000000) : ∃ m c', zBt c = some (m, c') ∧ CurB (k + 26) c' := by
 obtain ⟨x, c1, e1, x0, _, x2, h1⟩ := jK 6 h (by omega)
 have x3 := x2 (by omega)
 have hF := FUge
 obtain ⟨p, q, r, s, c', g1, g2⟩ := zGJ 6 FU (k + 2) x 1 0 0 1 c1 h1 (by omega) (by omega) (by omega)
 exact ⟨(p, q, r, s), c', by simp only [zBt, e1, Option.bind_some, g1], g2.up (by omega)⟩
theorem zIS {k : Nat} {c : List Int × Int × Int} (f : Int × Int × Int) (h : CurB k c) (hk : k ≤ 10000000000) : ∃ g c', zAU c f = some (g, c') ∧ CurB (k + 26) c' := by
 obtain ⟨m, c1, e1, h1⟩ := proper_ok h hk
 obtain ⟨y, hy⟩ := foAct_some f m
 simp only [zAU, e1, Option.bind_some, hy, sform_val]
 cases (inN y.1 && (inN y.2.1 && inN y.2.2)) with
 | true => exact ⟨_, c1, rfl, h1⟩
 | false => exact ⟨_, c1, rfl, h1⟩
def OkD (d : Int) : Prop := -2000 ≤ d ∧ d ≤ -3 ∧ d % 4 ≤ 1
instance (d : Int) : Decidable (OkD d) := inferInstanceAs (Decidable (-2000 ≤ d ∧ d ≤ -3 ∧ d % 4 ≤ 1))
theorem okd_val (d : Int) : zAj d = some (decide (OkD d)) := by
 simp only [zAj, zCW, Option.bind_some, zAN]
 by_cases h1 : -2000 ≤ d
 ·by_cases h2 : d ≤ -3
  ·rw [decide_eq_true h1, decide_eq_true h2, cond_true, cond_true, zIZ, zD7 (by omega) (by omega)]
   simp only [Option.bind_some, jN]
   congr 1
   rw [Bool.eq_iff_iff, decide_eq_true_iff, decide_eq_true_iff]
   unfold OkD
   omega
  ·rw [decide_eq_true h1, decide_eq_false h2, decide_eq_false (show ¬ OkD d from fun h => h2 h.2.1)]
   rfl
 ·rw [decide_eq_false h1, decide_eq_false (show ¬ OkD d from fun h => h1 h.1)]
  rfl
theorem zGx {k : Nat} {c : List Int × Int × Int} (h : CurB k c) (hk : k ≤ 10000000000) : ∃ d c', zAL c = some (d, c') ∧ OkD d ∧ CurB (k + 4) c' := by
 obtain ⟨d, c1, e1, h1⟩ := disc_ok h (by omega)
 simp only [zAL, e1, Option.bind_some, okd_val]
 by_cases hd : OkD d
 ·rw [decide_eq_true hd]
  exact ⟨d, c1, rfl, hd, h1⟩
 ·rw [decide_eq_false hd]
  exact ⟨-23, c1, rfl, ⟨by decide, by decide, by decide⟩, h1⟩
theorem zGH {k : Nat} {c : List Int × Int × Int} {d : Int} (hd : OkD d) (h : CurB k c) (hk : k ≤ 100000000000) : ∃ f c', zAB c d = some (f, c') ∧ PrR d f ∧ CurB (k + 2) c' := by
 obtain ⟨L, h1, h2, h3, _⟩ := zGG hd.1 hd.2.1
 have hp := (h3 _).2 (prin_red hd.1 hd.2.1 hd.2.2)
 have hL : 0 < L.length := List.length_pos_of_mem hp
 obtain ⟨x, c1, e1, x0, x1, x2, g1⟩ := jK (L.length : Int) h (by omega)
 have hx : x < (L.length : Int) := by
  rcases Int.lt_or_le 1 (L.length : Int) with h5 | h5
  ·exact x2 h5
  ·have := x1 h5; omega
 obtain ⟨f, e2, hf⟩ := getI_in x0 hx
 simp only [zAB, h1, Option.bind_some, e1, e2]
 exact ⟨f, c1, rfl, (h3 f).1 hf, g1⟩
theorem bif3 {α : Type} (a b c : Bool) : ∃ x, (bif a then some b else some c : Option Bool) = some x := by cases a <;> exact ⟨_, rfl⟩
theorem zIv {k : Nat} {c : List Int × Int × Int} (h : CurB k c) (hk : k ≤ 100000000000) : ∃ v c', zAa c = some (v, c') ∧ CurB (k + 8) c' := by
 obtain ⟨y, c1, e1, _, _, _, h1⟩ := jK 12 h (by omega)
 simp only [zAa, e1, Option.bind_some]
 cases eqI y 0 with
 | true =>
  obtain ⟨x, c2, e2, _, h2⟩ := zFZ (l := [0, 1, -1, 1000000, -1000000, 1000001, -1000001, -9223372036854775808, 9223372036854775807, 999983, 999999, 1000]) (by simp) h1 (by omega)
  simp only [cond_true, e2, Option.bind_some]
  exact ⟨x, c2, rfl, h2.up (by omega)⟩
 | false =>
  rw [cond_false]
  obtain ⟨j, hj⟩ := bif3 (α := Int) (eqI y 1) (eqI y 1) (eqI y 2)
  rw [hj]
  simp only [Option.bind_some]
  cases j with
  | true =>
   obtain ⟨x1, c2, e2, _, _, _, h2⟩ := jK 50000 h1 (by omega)
   obtain ⟨x2, c3, e3, _, _, _, h3⟩ := jK 20 h2 (by omega)
   obtain ⟨x3, c4, e4, _, _, _, h4⟩ := jK 2 h3 (by omega)
   simp only [cond_true, e2, e3, e4, Option.bind_some, qM]
   exact ⟨_, c4, rfl, h4.up (by omega)⟩
  | false =>
   rw [cond_false]
   obtain ⟨j, hj⟩ := bif3 (α := Int) (eqI y 3) (eqI y 3) (eqI y 4)
   rw [hj]
   simp only [Option.bind_some]
   cases j with
   | true =>
    obtain ⟨x1, c2, e2, _, _, _, h2⟩ := jK 2000 h1 (by omega)
    simp only [cond_true, e2, Option.bind_some]
    exact ⟨_, c2, rfl, h2.up (by omega)⟩
   | false =>
    obtain ⟨x1, c2, e2, _, _, _, h2⟩ := jK 121 h1 (by omega)
    simp only [cond_false, e2, Option.bind_some, qM]
    exact ⟨_, c2, rfl, h2.up (by omega)⟩
theorem form_ok {k : Nat} {c : List Int × Int × Int} (h : CurB k c) (hk : k ≤ 10000000000) : ∃ v c', zCX c = some (v, c') ∧ CurB (k + 30) c' := by
 obtain ⟨y, c1, e1, _, _, _, h1⟩ := jK 14 h (by omega)
 simp only [zCX, e1, Option.bind_some]
 cases eqI y 0 with
 | true =>
  obtain ⟨x1, c2, e2, h2⟩ := zIv h1 (by omega)
  obtain ⟨x2, c3, e3, h3⟩ := zIv h2 (by omega)
  obtain ⟨x3, c4, e4, h4⟩ := zIv h3 (by omega)
  simp only [cond_true, e2, e3, e4, Option.bind_some]
  exact ⟨_, c4, rfl, h4.up (by omega)⟩
 | false =>
  rw [cond_false]
  cases eqI y 1 with
  | true =>
   obtain ⟨x0, c2, e2, _, h2⟩ := zFZ (l := [2, 3, -1, 0, 1000]) (by simp) h1 (by omega)
   obtain ⟨x1, c3, e3, _, _, _, h3⟩ := jK 20 h2 (by omega)
   obtain ⟨x2, c4, e4, _, _, _, h4⟩ := jK 21 h3 (by omega)
   obtain ⟨x3, c5, e5, _, _, _, h5⟩ := jK 20 h4 (by omega)
   simp only [cond_true, e2, e3, e4, e5, Option.bind_some, qM]
   exact ⟨_, c5, rfl, h5.up (by omega)⟩
  | false =>
   rw [cond_false]
   cases eqI y 2 with
   | true =>
    obtain ⟨x1, c3, e3, _, _, _, h3⟩ := jK 2000 h1 (by omega)
    obtain ⟨x2, c4, e4, _, _, _, h4⟩ := jK 3000 h3 (by omega)
    obtain ⟨x3, c5, e5, _, _, _, h5⟩ := jK 2000 h4 (by omega)
    simp only [cond_true, e3, e4, e5, Option.bind_some, qM]
    exact ⟨_, c5, rfl, h5.up (by omega)⟩
   | false =>
    rw [cond_false]
    cases eqI y 3 with
    | true =>
     obtain ⟨x1, c3, e3, _, _, _, h3⟩ := jK 21 h1 (by omega)
     obtain ⟨x2, c4, e4, _, _, _, h4⟩ := jK 21 h3 (by omega)
     obtain ⟨x3, c5, e5, _, _, _, h5⟩ := jK 21 h4 (by omega)
     simp only [cond_true, e3, e4, e5, Option.bind_some, qM]
     exact ⟨_, c5, rfl, h5.up (by omega)⟩
    | false =>
     obtain ⟨x1, c3, e3, p0, _, p2, h3⟩ := jK 25 h1 (by omega)
     have p3 := p2 (by omega)
     obtain ⟨x2, c4, e4, _, _, _, h4⟩ := jK 40 h3 (by omega)
     have ea : w64 (1 + x1) = 1 + x1 := zW (by omega)
     obtain ⟨x3, c5, e5, _, _, _, h5⟩ := jK (w64 (2 * (1 + x1))) h4 (by omega)
     have hz : nz (w64 (4 * (1 + x1))) = some () := nzOk (by rw [zW (by omega)]; omega)
     simp only [cond_false, e3, e4, ea, e5, hz, Option.bind_some, qM]
     exact ⟨_, c5, rfl, h5.up (by omega)⟩
theorem definite_ok {k : Nat} {c : List Int × Int × Int} (h : CurB k c) (hk : k ≤ 1000000000) : ∃ v c', zBX c = some (v, c') ∧ CurB (k + 40) c' := by
 obtain ⟨y, c1, e1, _, _, _, h1⟩ := jK 12 h (by omega)
 simp only [zBX, e1, Option.bind_some]
 cases eqI y 0 with
 | true =>
  obtain ⟨x1, c2, e2, h2⟩ := form_ok h1 (by omega)
  simp only [cond_true, e2, Option.bind_some]
  exact ⟨_, c2, rfl, h2.up (by omega)⟩
 | false =>
  rw [cond_false]
  cases eqI y 1 with
  | true =>
   obtain ⟨d, c2, e2, hd, h2⟩ := zGx h1 (by omega)
   obtain ⟨f, c3, e3, _, h3⟩ := zGH hd h2 (by omega)
   obtain ⟨x, c4, e4, _, _, _, h4⟩ := jK 5 h3 (by omega)
   obtain ⟨g, c5, e5, h5⟩ := zIS (w64 (w64 (1 + x) * f.1), w64 (w64 (1 + x) * f.2.1), w64 (w64 (1 + x) * f.2.2)) h4 (by omega)
   simp only [cond_true, e2, e3, e4, e5, Option.bind_some, qM]
   exact ⟨_, c5, rfl, h5.up (by omega)⟩
  | false =>
   rw [cond_false]
   cases eqI y 2 with
   | true =>
    obtain ⟨x1, c3, e3, _, _, _, h3⟩ := jK 1000000 h1 (by omega)
    obtain ⟨x2, c4, e4, _, _, _, h4⟩ := jK 1000001 h3 (by omega)
    obtain ⟨x3, c5, e5, _, _, _, h5⟩ := jK 750001 h4 (by omega)
    simp only [cond_true, e3, e4, e5, Option.bind_some, qM]
    exact ⟨_, c5, rfl, h5.up (by omega)⟩
   | false =>
    obtain ⟨d, c2, e2, hd, h2⟩ := zGx h1 (by omega)
    obtain ⟨f, c3, e3, _, h3⟩ := zGH hd h2 (by omega)
    obtain ⟨g, c5, e5, h5⟩ := zIS f h3 (by omega)
    simp only [cond_false, e2, e3, e5, Option.bind_some]
    exact ⟨_, c5, rfl, h5.up (by omega)⟩
theorem classForm_ok {k : Nat} {c : List Int × Int × Int} (h : CurB k c) (hk : k ≤ 100000000) : ∃ f c', zBG c = some (f, c') ∧ CurB (k + 60) c' := by
 obtain ⟨b, c1, e1, h1⟩ := one_ok 12 h (by omega)
 simp only [zBG, e1, Option.bind_some]
 cases b with
 | true =>
  obtain ⟨v, c2, e2, h2⟩ := definite_ok h1 (by omega)
  exact ⟨v, c2, by simp only [cond_true, e2, Option.bind_some], h2.up (by omega)⟩
 | false =>
  obtain ⟨d, c2, e2, hd, h2⟩ := zGx h1 (by omega)
  obtain ⟨f, c3, e3, _, h3⟩ := zGH hd h2 (by omega)
  obtain ⟨b, c4, e4, h4⟩ := one_ok 2 h3 (by omega)
  simp only [cond_false, e2, e3, e4, Option.bind_some]
  cases b with
  | true =>
   obtain ⟨g, c5, e5, h5⟩ := zIS f h4 (by omega)
   exact ⟨g, c5, by simp only [cond_true, e5, Option.bind_some], h5.up (by omega)⟩
  | false => exact ⟨f, c4, rfl, h4.up (by omega)⟩
theorem lft_run : ∀ (k fu : Nat) (d : Int) (y10 y6 : Int × List Int × Int × Int), -2000 ≤ d → d ≤ -3 → (-3 - d).toNat ≤ k → k < fu → ∃ r, zAS y10 y6 fu d = some r ∧ -2000 ≤ r ∧ r ≤ -3
 | k, 0, d, _, _, _, _, _, hf => by omega
 | k, fu + 1, d, y10, y6, h1, h2, h3, hf => by
  rw [zAS, okd_val, Option.bind_some]
  by_cases h : OkD d
  ·rw [decide_eq_true h]
   exact ⟨d, rfl, h1, h2⟩
  ·rw [decide_eq_false h]
   have hne : d ≠ -3 := fun e => h ⟨h1, h2, by subst e; decide⟩
   obtain ⟨k', rfl⟩ : ∃ k', k = k' + 1 := ⟨k - 1, by omega⟩
   simp only [Bool.not_false, cond_true, qM]
   rw [zW (n := d + 1) (by omega)]
   exact lft_run k' fu (d + 1) y10 y6 (by omega) (by omega) (by omega) (by omega)
theorem most_ok {p : Int} (h : p ∈ [(2 : Int), 2, 3, 3, 5, 7, 11, 13, 19]) : ∃ y, 1 ≤ y ∧ y ≤ 500 ∧ nz (w64 (p * p)) = some () ∧ zAk 1 (w64 (w64 (Int.tdiv 2000 (w64 (p * p))) - 3)) = some y ∧ p ≤ 1009 := by
 simp only [List.mem_cons, List.not_mem_nil, or_false] at h
 rcases h with h | h | h | h | h | h | h | h | h <;> subst h
 ·exact ⟨497, by decide, by decide, by decide +kernel, by decide +kernel, by decide⟩
 ·exact ⟨497, by decide, by decide, by decide +kernel, by decide +kernel, by decide⟩
 ·exact ⟨219, by decide, by decide, by decide +kernel, by decide +kernel, by decide⟩
 ·exact ⟨219, by decide, by decide, by decide +kernel, by decide +kernel, by decide⟩
 ·exact ⟨77, by decide, by decide, by decide +kernel, by decide +kernel, by decide⟩
 ·exact ⟨37, by decide, by decide, by decide +kernel, by decide +kernel, by decide⟩
 ·exact ⟨13, by decide, by decide, by decide +kernel, by decide +kernel, by decide⟩
 ·exact ⟨8, by decide, by decide, by decide +kernel, by decide +kernel, by decide⟩
 ·exact ⟨2, by decide, by decide, by decide +kernel, by decide +kernel, by decide⟩
theorem lifted_ok {k : Nat} {c : List Int × Int × Int} (h : CurB k c) (hk : k ≤ 1000000) : ∃ d p c', zBu c = some (d, p, c') ∧ CurB (k + 20) c' ∧ p ≤ 1009 := by
 have hF := FUge
 obtain ⟨b, c1, e1, h1⟩ := one_ok 10 h (by omega)
 simp only [zBu, e1, Option.bind_some]
 cases b with
 | true =>
  obtain ⟨d, c2, e2, h2⟩ := disc_ok h1 (by omega)
  obtain ⟨p, c3, e3, hm, h3⟩ := zFZ (l := [2, 3, 5, 1, 0, 4, 1009, 23]) (by simp) h2 (by omega)
  refine ⟨d, p, c3, by simp only [cond_true, e2, e3, Option.bind_some], h3.up (by omega), ?_⟩
  simp only [List.mem_cons, List.not_mem_nil, or_false] at hm
  omega
 | false =>
  obtain ⟨p, c2, e2, hm, h2⟩ := zFZ (l := [2, 2, 3, 3, 5, 7, 11, 13, 19]) (by simp) h1 (by omega)
  obtain ⟨y, m1, m2, m3, m4, m5⟩ := most_ok hm
  obtain ⟨x, c3, e3, x0, x1, x2, h3⟩ := jK y h2 (by omega)
  have hx : x ≤ 500 := by
   rcases Int.lt_or_le 1 y with h | h
   ·have := x2 h; omega
   ·have := x1 h; omega
  obtain ⟨r, e4, r1, r2⟩ := lft_run 2000 FU (-3 - x) (x, c3) (p, c2) (by omega) (by omega) (by omega) (by omega)
  obtain ⟨b, c4, e5, h4⟩ := one_ok 4 h3 (by omega)
  simp only [cond_false, e2, m3, m4, e3, qM, Option.bind_some]
  rw [zW (n := -3 - x) (by omega), e4]
  simp only [e5, Option.bind_some]
  cases b with
  | true =>
   obtain ⟨d, c5, e6, _, h5⟩ := zFZ (l := [-3, -4]) (by simp) h4 (by omega)
   exact ⟨d, p, c5, by simp only [cond_true, e6, Option.bind_some], h5.up (by omega), m5⟩
  | false => exact ⟨r, p, c4, rfl, h4.up (by omega), m5⟩
theorem psf_run (l : List F3) (hl : l.length ≤ 1000000) : ∀ (fu k : Nat), k ≤ l.length → l.length - k < fu → zAW l l fu (k : Int) = some (.inl ())
 | 0, k, h1, h2 => by omega
 | fu + 1, k, h1, h2 => by
  rw [zAW, jN]
  by_cases hk : k < l.length
  ·rw [decide_eq_true (by omega), cond_true, zEv hk]
   simp only [Option.bind_some, beq_self_eq_true, Bool.and_self, Bool.not_true, cond_false, qM]
   rw [zFn (by omega)]
   exact psf_run l hl fu (k + 1) (by omega) (by omega)
  ·rw [decide_eq_false (by omega), cond_false]
theorem psf_self (l : List F3) (hl : l.length ≤ 100000) : zBJ l l = some true := by
 have hF := FUge
 have h : zAW l l FU 0 = some (.inl ()) := psf_run l (by omega) FU 0 (by omega) (by omega)
 simp only [zBJ, zCk, Bool.not_true, cond_false, h, Option.bind_some]
theorem def_in {a b c d : Int} (ha : inN a = true) (hb : inN b = true) (hc : inN c = true) (ha0 : 0 < a) (hd : b * b - 4 * a * c = d) (hd0 : d < 0) : qZ (a, b, c) = some true ∧ zY (a, b, c) = some d := by
 have hdv := zKL ha hb hc
 rw [hd] at hdv
 refine ⟨?_, hdv⟩
 simp only [qZ, zFt, ha, hb, hc, Bool.and_true, Option.bind_some, hdv, cond_true, jN, decide_eq_true hd0, decide_eq_true ha0]
theorem isMat_ok {m1 m2 m3 m4 : Int} (h1 : m1.natAbs ≤ 2000) (h2 : m2.natAbs ≤ 2000) (h3 : m3.natAbs ≤ 2000) (h4 : m4.natAbs ≤ 2000) : zDE (m1, m2, m3, m4) = some true := by
 have i1 : inN m1 = true := zAf.2 (by omega)
 have i2 : inN m2 = true := zAf.2 (by omega)
 have i3 : inN m3 = true := zAf.2 (by omega)
 have i4 : inN m4 = true := zAf.2 (by omega)
 simp only [zDE, zJ5 _ (show [m1, m2, m3, m4].length < 1000000 by simp), Option.bind_some, List.all_cons, List.all_nil, i1, i2, i3, i4, Bool.and_self]
theorem lf_run {r : F3} {m : M4} {bb : Bool} {f : F3} {p : Int} {u : List F3} {b2 : Bool} (hu : ∀ g ∈ u, zB4 g p = some (r, true)) : ∀ (k fu i : Nat), i + k = u.length → k < fu → u.length ≤ 100000 → zBO (r, m, bb) (f, p) (u, b2) fu (i : Int) = some (.inl ())
 | k, 0, i, _, h, _ => by omega
 | k, fu + 1, i, hi, hf, hl => by
  rw [zBO]
  simp only []
  rw [jN]
  by_cases h1 : i < u.length
  ·obtain ⟨k', rfl⟩ : ∃ m', k = m' + 1 := ⟨k - 1, by omega⟩
   rw [decide_eq_true (by omega), cond_true, zEv h1]
   simp only [Option.bind_some, hu _ (List.getElem_mem h1), Bool.not_true, cond_false, beq_self_eq_true, Bool.and_self, qM]
   rw [zFn (by omega)]
   exact lf_run hu k' fu (i + 1) (by omega) (by omega) hl
  ·rw [decide_eq_false (by omega), cond_false]
theorem lift_not {f : F3} {p : Int} (h : ∃ cb, qC f = some cb ∧ zBB f = some cb ∧ (cb = false ∨ ∃ D, zY f = some D ∧ jD f = some D ∧ j9 D p = some false ∧ zCA D p = some false)) : zA9 f p = some ([], false) ∧ zA4 f p = some ([], false) := by
 obtain ⟨cb, h1, h2, h3 | ⟨D, d1, d2, d3, d4⟩⟩ := h
 ·subst h3
  constructor
  ·simp only [zA9, h1, Option.bind_some, Bool.not_false, cond_true]
  ·simp only [zA4, h2, Option.bind_some, Bool.not_false, cond_true]
 ·cases cb with
  | false =>
   constructor
   ·simp only [zA9, h1, Option.bind_some, Bool.not_false, cond_true]
   ·simp only [zA4, h2, Option.bind_some, Bool.not_false, cond_true]
  | true =>
   constructor
   ·simp only [zA9, h1, d1, d3, Option.bind_some, Bool.not_true, Bool.not_false, cond_true, cond_false]
   ·simp only [zA4, h2, d2, d4, Option.bind_some, Bool.not_true, Bool.not_false, cond_true, cond_false]
theorem draw_ok {code : List Int} (hc : CurB 0 (code, 0, 0)) : ∃ f p, zBc code = some (f, p) := by
 obtain ⟨d, p, c1, e1, h1, _⟩ := lifted_ok hc (by omega)
 simp only [zBc, e1, Option.bind_some, okd_val]
 by_cases hd : OkD d
 ·obtain ⟨f, c2, e2, _, h2⟩ := zGH hd h1 (by omega)
  obtain ⟨g, c3, e3, h3⟩ := zIS f h2 (by omega)
  rw [decide_eq_true hd]
  exact ⟨g, p, by simp only [Bool.not_true, cond_false, e2, e3, Option.bind_some]⟩
 ·obtain ⟨f, c2, e2, h2⟩ := classForm_ok h1 (by omega)
  rw [decide_eq_false hd]
  exact ⟨f, p, by simp only [Bool.not_false, cond_true, e2, Option.bind_some]⟩
theorem raw_FnFibres (code more : List Int) (hc8 : ∀ x ∈ code, 0 ≤ x ∧ x ≤ 255) : zDD code more = some true := by
 rcases big_cases code more with hb | ⟨hb, hc, hm⟩
 ·simp only [zDD, hb, Option.bind_some, cond_true]
 have hF := FUge
 obtain ⟨f, p, ed⟩ := draw_ok (CurB.start hc hc8)
 simp only [zDD, hb, ed, Option.bind_some, cond_false]
 have hnil : zBJ [] [] = some true := psf_self [] (by simp)
 rcases upd_cases f p with h | ⟨D, a, b, c, n, h⟩
 ·obtain ⟨l1, l2⟩ := lift_not h
  have u1 := upper_not_i h
  simp only [l1, l2, u1, Option.bind_some, bne_self_eq_false, cond_false, hnil, Bool.not_true, Bool.not_false, cond_true]
 ·have hD1 := h.D1
  have hD2 := h.D2
  have hD4 := h.D4
  have hn := h.hn
  have hpr := h.pr
  have hnD := h.nD
  have hw := h.w
  have hiup := h.iup
  have hsup := h.sup
  have hprm := h.prm
  have hpn := h.pn
  subst hpn
  have hD : D < 0 := by omega
  obtain ⟨n2, n23⟩ := qN_bd hn
  have hp : 2 ≤ (n : Int) := by omega
  have hDp : (n : Int) * n * D < 0 := zCO hp hD
  have hm4 : ((n : Int) * n * D) % 4 ≤ 1 := by
   obtain ⟨k, hk⟩ : ∃ k : Int, k = (n : Int) / 2 := ⟨_, rfl⟩
   rcases (by omega : (n : Int) % 2 = 0 ∨ (n : Int) % 2 = 1) with h2 | h2
   ·have e : (n : Int) = 2 * k := by omega
    have e2 : (n : Int) * n * D = 4 * (k * k * D) := by rw [e]; grind
    omega
   ·have e : (n : Int) = 2 * k + 1 := by omega
    have e2 : (n : Int) * n * D = 4 * ((k * k + k) * D) + D := by rw [e]; grind
    omega
  have m4 : 2 * 2 ≤ (n : Int) * n := Int.mul_le_mul hp hp (by omega) (by omega)
  have m4b : (n : Int) * n ≤ 23 * 23 := Int.mul_le_mul (by omega) (by omega) (by omega) (by omega)
  have m5 : 2 * 2 * (-D) ≤ (n : Int) * n * (-D) := Int.mul_le_mul_of_nonneg_right m4 (by omega)
  rw [Int.mul_neg ((n : Int) * n) D] at m5
  have hD3 : (n : Int) * n * D ≤ -3 := by omega
  have hok : OkD D := ⟨hD1, hD2, hD4⟩
  have hokp : OkD ((n : Int) * n * D) := ⟨hnD, hD3, hm4⟩
  obtain ⟨M, M1, M2, M3, M4'⟩ := zGG hnD hD3
  have Msrt := zJr hnD hD3 M1
  obtain ⟨L, L1, L2, L3, L4⟩ := zGG hD1 hD2
  obtain ⟨v1, v2, v3, v4, v5⟩ := zHy hn hpr hD1 hD hD4 hnD hw M1
  obtain ⟨u, u1, u2, u3, u4⟩ := upper_up_i h
  have hu : (M.filter fun e => decide (desF n e = (a, b, c))) = u := zJ2 (List.Pairwise.filter _ Msrt) u3 fun x => by rw [v5, u4]
  rw [hu] at v1 v2
  have il : zA9 f (n : Int) = some (u, true) := by
   simp only [zA9, h.cls, h.dv, hiup, h.kr, v1, Option.bind_some, Bool.not_true, cond_false]
  have sl : zA4 f (n : Int) = some (u, true) := by
   have hcs : zBB f = some true := by rw [class_val, h.cls]
   simp only [zA4, hcs, h.sd, hsup, h.ks, v2, Option.bind_some, Bool.not_true, cond_false]
  -- counting
  obtain ⟨L', k, t1, t2, t3, t4, t5⟩ := fbD_at (fb_tab hn hnD hD2 hD4)
  rw [L1] at t1
  obtain rfl := zB t1
  have hfib : ∀ g ∈ L, (M.filter fun e => decide (desF n e = g)).length = k.toNat := by
   intro g hg
   obtain ⟨a', b', c'⟩ := g
   have hg' := zGs ((L3 _).1 hg)
   obtain ⟨_, _, _, _, w5⟩ := zHy hn hg' hD1 hD hD4 hnD hw M1
   have h9 : (dd (uP a' b' c') (uH a' b' c') (lats n) []).length = k.toNat := t5 (a', b', c') hg
   exact (above_len hn hg' hD hnD (List.Pairwise.filter _ Msrt) w5).trans h9
  have hML : M.length = L.length * k.toNat := part_len (desF n) L M L4 (fun e he => by
   obtain ⟨N, _, q2, _⟩ := v4 e he
   exact (L3 _).2 (zGq q2)) hfib
  have hfL : (a, b, c) ∈ L := (L3 _).2 (zGq hpr)
  have hul : u.length = k.toNat := by rw [← hu]; exact hfib _ hfL
  have hulI : ((u.length : Nat) : Int) = k := by omega
  -- the program's numbers
  obtain ⟨ha, hb', hc', hneg, hbig, hpos, _⟩ := zFS (a := f.1) (b := f.2.1) (c := f.2.2) h.cls
  have hif : zCb f = some true := by rw [zFt, ha, hb', hc']; rfl
  have e1 : zBx f = some (D, true) := by
   simp only [zBx, hif, h.dv, Option.bind_some, Bool.not_true, cond_false]
  have hnegD : qF D = some true := by rw [zF6]; exact congrArg some (decide_eq_true hok)
  have hnegP : qF ((n : Int) * n * D) = some true := by rw [zF6]; exact congrArg some (decide_eq_true hokp)
  have e2 : zAY D = some ((L.length : Int), true) := by
   simp only [zAY, zBw, hnegD, zIy hD1 hD2, L1, Option.bind_some, Bool.not_true, cond_false]
  have e3 : zAY ((n : Int) * n * D) = some ((M.length : Int), true) := by
   simp only [zAY, zBw, hnegP, zIy hnD hD3, M1, Option.bind_some, Bool.not_true, cond_false]
  -- the kernel
  have hpf := prin_red hD1 hD2 hD4
  have hpfc := zGs hpf
  obtain ⟨z1, _, _, _, z5⟩ := zHy hn hpfc hD1 hD hD4 hnD hw M1
  have hpv := prin_val hD1 hD hD4
  have hps : qK (pF D) = some (pF D) := red_stay hpfc.1 (by decide) hpfc.2.1
  have z1' : zCw (pF D) (n : Int) = some (M.filter fun e => decide (desF n e = pF D)) := z1
  have e4 : zBg D (n : Int) = some ((M.filter fun e => decide (desF n e = pF D)), true) := by
   simp only [zBg, hnegD, hiup, hpv, hps, z1', Option.bind_some, Bool.not_true, cond_false]
  have e4l : ((M.filter fun e => decide (desF n e = pF D)).length : Int) = k := by
   have := hfib (pF D) ((L3 _).2 hpf)
   omega
  -- the reduced form
  obtain ⟨⟨a', b', c''⟩, m1, m2, m3, m4', k1, k2, k3, _, k5, k6, k7, k8, k9, _⟩ := red_cf h.cf
  have hkr : qK f = some (a', b', c'') := by simp only [qK, k1, Option.bind_some]
  rw [h.kr] at hkr
  have habc := zB hkr
  rw [← habc] at k1 k2 k3
  have fdef : qZ f = some true := (def_in ha hb' hc' hpos h.dis hD).1
  have e5 : zC3 f = some ((a, b, c), (m1, m2, m3, m4'), true) := by
   simp only [zC3, fdef, k1, isMat_ok k6 k7 k8 k9, Option.bind_some, Bool.not_true, cond_false]
  have hdesc : ∀ g ∈ u, zB4 g (n : Int) = some ((a, b, c), true) := by
   intro g hg
   rw [← hu, List.mem_filter, decide_eq_true_eq] at hg
   obtain ⟨N, q1, q2, q3⟩ := v4 g hg.1
   rw [hg.2] at q1
   obtain ⟨c1, c2⟩ := zI3 hnD hDp q3
   have hIP : zCH (n : Int) = some true := by
    have : inN (n : Int) = true := zAf.2 (by omega)
    simp only [zCH, zJ5 _ (show [(n : Int)].length < 1000000 by simp), List.all_cons, List.all_nil, Bool.and_true, this, hprm, Option.bind_some, cond_true]
   have hnn : (n : Int) * n ≠ 0 := by omega
   have wn : w64 ((n : Int) * n) = (n : Int) * n := zW (by omega)
   have td : Int.tdiv ((n : Int) * n * D) ((n : Int) * n) = D := Int.mul_tdiv_cancel_left _ hnn
   have tm : eqI (Int.tmod ((n : Int) * n * D) ((n : Int) * n)) 0 = true := by rw [Int.tmod_eq_zero_of_dvd ⟨D, rfl⟩]; rfl
   have wD : w64 D = D := zW (by omega)
   have l2 : ltI 2000 (n : Int) = false := by rw [jN, decide_eq_false (by omega)]
   have hcan : zC2 g (n : Int) = some true := by
    simp only [zC2, c1, hIP, c2, wn, zEY hnn, tm, td, wD, hnegD, l2, Option.bind_some, Bool.not_true, cond_false, cond_true]
   simp only [zB4, hcan, q1, Option.bind_some, Bool.not_true, cond_false]
  have x34 := lf_run (r := (a, b, c)) (m := (m1, m2, m3, m4')) (bb := true) (f := f) (p := (n : Int)) (b2 := true) hdesc u.length FU 0 (by omega) (by omega) (by omega)
  have e0 : (((0 : Nat) : Int)) = 0 := rfl
  rw [e0] at x34
  have hLk : L.length * k.toNat ≤ 27000 * 100 := Nat.mul_le_mul L2 (by omega)
  have hMLI : ((M.length : Nat) : Int) = (L.length : Int) * k := by
   rw [hML, Int.natCast_mul]
   congr 1
   omega
  have wLk : w64 ((L.length : Int) * k) = (L.length : Int) * k := by rw [← hMLI]; exact zW (by omega)
  have hss := psf_self u (by omega)
  simp only [il, sl, u1, Option.bind_some, bne_self_eq_false, cond_false, hss, Bool.not_true, e1, t2, e2, hw, e3, e4, wLk, hulI, hMLI, e4l, zCk, e5, x34]
end Go.Proofs.YtnheekadeflecaaGreat
