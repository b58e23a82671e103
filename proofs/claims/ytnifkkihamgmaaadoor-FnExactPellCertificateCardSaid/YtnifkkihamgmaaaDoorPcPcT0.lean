/-
  Pell's equation with the right side 4: a sieve that tells that no number below a bound solves it.
  Conditions: none.
-/
import Derived.Test.YtnifkkihamgmaaaDoorPcRaw
namespace Go.Proofs.YtnifkkihamgmaaaDoor
set_option linter.unusedVariables false
set_option linter.unusedSimpArgs false

def fP {α : Type} (m : Nat) (f : Nat → α) : α := Nat.casesOn (motive := fun _ => α) m (f 0) (fun k => f (Nat.succ k))
theorem fP_eq {α : Type} (m : Nat) (f : Nat → α) : fP m f = f m := by cases m <;> rfl
/-- v solves the equation. -/
def Sol (d v : Nat) : Prop := ∃ s : Nat, s * s = d * v * v + 4
/-- The squares modulo q, as bits. -/
def sqm (q : Nat) : Nat → Nat → Nat
  | 0, acc => acc
  | s + 1, acc => fP (Nat.lor acc (Nat.pow 2 (Nat.mod (Nat.mul s s) q))) fun a => sqm q s a
/-- The residues c modulo q where d c c + 4 is a square modulo q. -/
def ptm (q S dm : Nat) : Nat → Nat → Nat
  | 0, acc => acc
  | c + 1, acc => bif Nat.testBit S (Nat.mod (Nat.add (Nat.mul (Nat.mul dm c) c) 4) q) then fP (Nat.lor acc (Nat.pow 2 c)) fun a => ptm q S dm c a else ptm q S dm c acc
/-- A pattern of w bits repeated up to L bits. -/
def rp (L : Nat) : Nat → Nat → Nat → Nat
  | 0, R, w => Nat.sub (Nat.pow 2 L) 1
  | i + 1, R, w => bif Nat.ble L w then R else fP (Nat.lor R (Nat.shiftLeft R w)) fun R2 => fP (Nat.add w w) fun w2 => rp L i R2 w2
def sv (d L : Nat) : List Nat → Nat → Nat
  | [], acc => acc
  | q :: l, acc => bif Nat.beq acc 1 then acc else fP (sqm q q 0) fun S => fP (Nat.mod d q) fun dm => fP (ptm q S dm q 0) fun P => fP (rp L 20 P q) fun R => fP (Nat.land acc R) fun a => sv d L l a
def qL : List Nat := [16, 9, 5, 7, 11, 13, 17, 19, 23, 29, 31, 37, 41, 43, 47, 53, 59, 61, 67, 71, 73, 79, 83, 89, 97]
/-- Nothing from 1 up to L (without it) solves. -/
def nos (d L : Nat) : Bool := bif Nat.ble 1 L then Nat.beq (sv d L qL (Nat.sub (Nat.pow 2 L) 1)) 1 else true

theorem tb_lor (a b v : Nat) : Nat.testBit (Nat.lor a b) v = (Nat.testBit a v || Nat.testBit b v) := Nat.testBit_or a b v
theorem tb_land (a b v : Nat) : Nat.testBit (Nat.land a b) v = (Nat.testBit a v && Nat.testBit b v) := Nat.testBit_and a b v
theorem tb_pow (n v : Nat) : Nat.testBit (Nat.pow 2 n) v = decide (n = v) := Nat.testBit_two_pow
theorem tb_ones (L v : Nat) : Nat.testBit (Nat.sub (Nat.pow 2 L) 1) v = decide (v < L) := Nat.testBit_two_pow_sub_one L v
theorem sqm_acc (q : Nat) : ∀ (k acc v : Nat), Nat.testBit acc v = true → Nat.testBit (sqm q k acc) v = true
  | 0, acc, v, h => h
  | k + 1, acc, v, h => by
    unfold sqm
    rw [fP_eq]
    exact sqm_acc q k _ v (by rw [tb_lor, h]; rfl)
theorem sqm_has (q : Nat) : ∀ (k acc s : Nat), s < k → Nat.testBit (sqm q k acc) (s * s % q) = true
  | k + 1, acc, s, h => by
    unfold sqm
    rw [fP_eq]
    by_cases e : s = k
    · refine sqm_acc q k _ _ ?_
      rw [tb_lor, tb_pow, e, Bool.or_eq_true]
      exact Or.inr (decide_eq_true rfl)
    · exact sqm_has q k _ s (by omega)
theorem ptm_acc (q S dm : Nat) : ∀ (k acc v : Nat), Nat.testBit acc v = true → Nat.testBit (ptm q S dm k acc) v = true
  | 0, acc, v, h => h
  | k + 1, acc, v, h => by
    unfold ptm
    cases Nat.testBit S (Nat.mod (Nat.add (Nat.mul (Nat.mul dm k) k) 4) q) with
    | true =>
      rw [cond_true, fP_eq]
      exact ptm_acc q S dm k _ v (by rw [tb_lor, h]; rfl)
    | false =>
      rw [cond_false]
      exact ptm_acc q S dm k _ v h
theorem ptm_has (q S dm : Nat) : ∀ (k acc c : Nat), c < k → Nat.testBit S ((dm * c * c + 4) % q) = true → Nat.testBit (ptm q S dm k acc) c = true
  | k + 1, acc, c, h, hb => by
    unfold ptm
    by_cases e : c = k
    · subst e
      have hb2 : Nat.testBit S (Nat.mod (Nat.add (Nat.mul (Nat.mul dm c) c) 4) q) = true := hb
      rw [hb2, cond_true, fP_eq]
      refine ptm_acc q S dm c _ _ ?_
      rw [tb_lor, tb_pow, Bool.or_eq_true]
      exact Or.inr (decide_eq_true rfl)
    · have hlt : c < k := by omega
      cases Nat.testBit S (Nat.mod (Nat.add (Nat.mul (Nat.mul dm k) k) 4) q) with
      | true =>
        rw [cond_true, fP_eq]
        exact ptm_has q S dm k _ c hlt hb
      | false =>
        rw [cond_false]
        exact ptm_has q S dm k _ c hlt hb
theorem rp_has (L q P : Nat) : ∀ (i R w : Nat), (∃ m, w = q * m) → (∀ v, v < w → Nat.testBit P (v % q) = true → Nat.testBit R v = true) → ∀ v, v < L → Nat.testBit P (v % q) = true → Nat.testBit (rp L i R w) v = true
  | 0, R, w, hw, h, v, hv, hp => by
    unfold rp
    rw [tb_ones, decide_eq_true hv]
  | i + 1, R, w, hw, h, v, hv, hp => by
    unfold rp
    cases hL : Nat.ble L w with
    | true =>
      rw [cond_true]
      exact h v (Nat.lt_of_lt_of_le hv (Nat.le_of_ble_eq_true hL)) hp
    | false =>
      rw [cond_false, fP_eq, fP_eq]
      obtain ⟨m, hm⟩ := hw
      refine rp_has L q P i _ _ ⟨m + m, by show w + w = _; rw [hm, Nat.mul_add]⟩ ?_ v hv hp
      intro u hu hq
      have hu : u < w + w := hu
      have hs : Nat.testBit (Nat.shiftLeft R w) u = (decide (u ≥ w) && Nat.testBit R (u - w)) := Nat.testBit_shiftLeft ..
      rw [tb_lor, hs]
      by_cases hlt : u < w
      · rw [h u hlt hq]
        rfl
      · have e : (u - w) % q = u % q := by
          have : u = (u - w) + q * m := by omega
          rw [this, Nat.add_mul_mod_self_left, ← hm]
          congr 1
          omega
        rw [decide_eq_true (show u ≥ w by omega), h (u - w) (by omega) (by rw [e]; exact hq), Bool.true_and, Bool.or_true]
theorem sv_has {d L v : Nat} (hs : Sol d v) (hv : v < L) : ∀ (l : List Nat), (∀ q ∈ l, 0 < q) → ∀ acc, Nat.testBit acc v = true → Nat.testBit (sv d L l acc) v = true
  | [], _, acc, h => h
  | q :: l, hq, acc, h => by
    unfold sv
    cases Nat.beq acc 1 with
    | true => exact h
    | false =>
      rw [cond_false, fP_eq, fP_eq, fP_eq, fP_eq, fP_eq]
      have q0 : 0 < q := hq q (List.mem_cons_self ..)
      refine sv_has hs hv l (fun q h => hq q (List.mem_cons_of_mem _ h)) _ ?_
      rw [tb_land, h, Bool.true_and]
      have hbase : ∀ u, u < q → Nat.testBit (ptm q (sqm q q 0) (Nat.mod d q) q 0) (u % q) = true → Nat.testBit (ptm q (sqm q q 0) (Nat.mod d q) q 0) u = true := fun u hu ht => by
        rw [Nat.mod_eq_of_lt hu] at ht
        exact ht
      refine rp_has L q _ 20 _ q ⟨1, (Nat.mul_one q).symm⟩ hbase v hv ?_
      refine ptm_has q _ _ q 0 (v % q) (Nat.mod_lt _ q0) ?_
      obtain ⟨s, hs⟩ := hs
      have e : (d % q * (v % q) * (v % q) + 4) % q = (s % q) * (s % q) % q := by
        rw [← Nat.mul_mod, hs]
        simp [Nat.add_mod, Nat.mul_mod]
      show Nat.testBit (sqm q q 0) ((d % q * (v % q) * (v % q) + 4) % q) = true
      rw [e]
      exact sqm_has q q 0 (s % q) (Nat.mod_lt _ q0)
theorem nos_spec {d L : Nat} (h : nos d L = true) : ∀ v, 1 ≤ v → v < L → ¬ Sol d v := by
  intro v h1 hv hs
  unfold nos at h
  have hL : Nat.ble 1 L = true := Nat.ble_eq_true_of_le (by omega)
  rw [hL, cond_true] at h
  have e : sv d L qL (Nat.sub (Nat.pow 2 L) 1) = 1 := Nat.eq_of_beq_eq_true h
  have hb := sv_has hs hv qL (by decide) (Nat.sub (Nat.pow 2 L) 1) (by rw [tb_ones, decide_eq_true hv])
  rw [e] at hb
  have : Nat.testBit 1 v = decide (0 = v) := Nat.testBit_two_pow (n := 0)
  rw [this, decide_eq_true_iff] at hb
  omega
/-- A number whose square times d is great. -/
def bsq (m : Nat) : Nat → Nat → Nat → Nat
  | 0, lo, _ => lo
  | f + 1, lo, hi => bif Nat.ble hi lo then lo else fP (Nat.div (Nat.succ (Nat.add lo hi)) 2) fun x => bif Nat.ble (Nat.mul x x) m then bsq m f x hi else bsq m f lo (Nat.pred x)
def topL (d : Nat) : Nat := fP (bsq (Nat.div 1000000000000 d) 40 0 1000000) fun x => Nat.succ x
/-- What holds at a number: the reference's solution is the least; or none is small enough. -/
def okd (d : Nat) : Bool :=
  match r_impl_isPositiveDisc (d : Int), r_spec_PellFour (d : Int) with
  | some false, some (_, false) => match r_spec_cyDisc (d : Int) with
    | some b => !b
    | none => false
  | some true, some ((T, U), true) => bif Nat.ble T.toNat 1000000 then
      (bif (bif leI 1 T then leI 1 U else false) then fP T.toNat (fun t => fP U.toNat fun u => bif Nat.beq (Nat.mul t t) (Nat.add (Nat.mul (Nat.mul d u) u) 4) then nos d u else false) else false)
    else (bif leI 1000001 T then fP (topL d) (fun L => bif Nat.ble 1000000000001 (Nat.add (Nat.mul (Nat.mul d L) L) 4) then nos d L else false) else false)
  | some true, some (_, false) => fP (topL d) fun L => bif Nat.ble 1000000000001 (Nat.add (Nat.mul (Nat.mul d L) L) 4) then nos d L else false
  | _, _ => false
def okr (k : Nat) : Nat → Bool
  | 0 => true
  | n + 1 => bif okd k then okr (Nat.succ k) n else false
theorem okr_spec : ∀ (n k : Nat), okr k n = true → ∀ d, k ≤ d → d < k + n → okd d = true
  | 0, k, h, d, h1, h2 => by omega
  | n + 1, k, h, d, h1, h2 => by
    unfold okr at h
    cases hk : okd k with
    | false => rw [hk] at h; cases h
    | true =>
      rw [hk, cond_true] at h
      by_cases e : d = k
      · rw [e]; exact hk
      · exact okr_spec n (Nat.succ k) h d (by omega) (by omega)
end Go.Proofs.YtnifkkihamgmaaaDoor
