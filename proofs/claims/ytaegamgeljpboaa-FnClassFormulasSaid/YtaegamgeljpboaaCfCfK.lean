/-
  A quick way to the Kronecker symbol of a negative discriminant, and that both ways of the program give it.
  Conditions: none.
-/
import Derived.Test.YtaegamgeljpboaaCfCfT0
namespace Go.Proofs.Ytaegamgeljpboaa
set_option linter.unusedVariables false
set_option linter.unusedSimpArgs false

def xr (a b : Bool) : Bool := bif a then (bif b then false else true) else b
def tw (n : Nat) : Bool := bif Nat.beq (Nat.mod n 8) 3 then true else Nat.beq (Nat.mod n 8) 5
def q3 (n : Nat) : Bool := Nat.beq (Nat.mod n 4) 3
/-- 0: zero; 1: one; 2: minus one; 3: not found -/
def jN : Nat → Nat → Nat → Bool → Nat
  | 0, _, _, _ => 3
  | f + 1, a, n, s => bif Nat.beq a 0 then (bif Nat.beq n 1 then (bif s then 2 else 1) else 0)
    else bif Nat.beq (Nat.mod a 2) 0 then jN f (Nat.div a 2) n (xr s (tw n))
    else jN f (Nat.mod n a) a (xr s (bif q3 a then q3 n else false))
def zr (z : Bool) (r : Nat) : Nat := bif Nat.beq r 3 then 3 else (bif z then 0 else r)
def kN : Nat → Nat → Nat → Bool → Bool → Nat
  | 0, _, _, _, _ => 3
  | f + 1, D, k, s, z => bif Nat.beq (Nat.mod k 2) 0 then (bif Nat.beq (Nat.mod D 2) 0 then kN f D (Nat.div k 2) s true else kN f D (Nat.div k 2) (xr s (tw D)) z)
    else zr z (jN 100 (Nat.mod (Nat.sub k (Nat.mod D k)) k) k s)
def sg (s : Bool) : Int := bif s then -1 else 1
def vl : Nat → Int
  | 0 => 0
  | 1 => 1
  | _ => -1
theorem nbeq (a b : Nat) : Nat.beq a b = decide (a = b) := by
  rw [Bool.eq_iff_iff, decide_eq_true_iff, Nat.beq_eq]
theorem eqI_nat (a b : Nat) : eqI (a : Int) (b : Int) = decide (a = b) := by
  rw [eqI_eq, Bool.eq_iff_iff, beq_iff_eq, decide_eq_true_iff]
  omega
theorem sg_mul (s t : Bool) : w64 (sg s * sg t) = sg (xr s t) := by cases s <;> cases t <;> rfl
theorem nzP {b : Int} (h : b ≠ 0) : nz b = some () := by
  unfold nz
  rw [eqI_eq]
  have : (b == 0) = false := by rw [beq_eq_false_iff_ne]; exact h
  rw [this]
  rfl
theorem mod_emod {a m : Int} (h1 : 1 ≤ m) (h2 : m ≤ 1000000) : r_impl_mod a m = some (a % m) := by
  have e := Int.tmod_eq_emod (a := a) (b := m)
  have e1 := Int.emod_nonneg a (b := m) (by omega)
  have e2 := Int.emod_lt_of_pos a (b := m) (by omega)
  simp only [r_impl_mod, nzP (show m ≠ 0 by omega), Option.bind_some, sI_eq, ltI_eq]
  by_cases h : a.tmod m < 0
  · rw [decide_eq_true h, cond_true, w64_in (by split at e <;> omega)]
    congr 1
    split at e <;> omega
  · rw [decide_eq_false h, cond_false]
    congr 1
    split at e <;> omega
theorem smod_eq (a m : Int) : r_spec_nuMod a m = r_impl_mod a m := by
  simp only [r_spec_nuMod, r_impl_mod, sI_eq]
theorem tw_odd {n : Nat} (h : n % 2 = 1) : tw n = !(decide (n % 8 = 1) || decide (n % 8 = 7)) := by
  unfold tw
  rw [nbeq, nbeq]
  show (bif decide (n % 8 = 3) then true else decide (n % 8 = 5)) = _
  have : n % 8 = 1 ∨ n % 8 = 3 ∨ n % 8 = 5 ∨ n % 8 = 7 := by omega
  rcases this with h | h | h | h <;> rw [h] <;> rfl
theorem two_pos {n : Nat} (h : n % 2 = 1) (hn : n ≤ 1000000) : r_impl_symbolOfTwo (n : Int) = some (sg (tw n)) := by
  have e : ((n : Int) % 8) = ((n % 8 : Nat) : Int) := by omega
  rw [tw_odd h]
  simp only [r_impl_symbolOfTwo, mod_emod (show (1 : Int) ≤ 8 by omega) (show (8 : Int) ≤ 1000000 by omega), Option.bind_some, e]
  have : n % 8 = 1 ∨ n % 8 = 3 ∨ n % 8 = 5 ∨ n % 8 = 7 := by omega
  rcases this with h | h | h | h <;> rw [h] <;> rfl
theorem two_neg {D : Nat} (h : D % 2 = 1) : r_impl_symbolOfTwo (-(D : Int)) = some (sg (tw D)) := by
  rw [tw_odd h]
  simp only [r_impl_symbolOfTwo, mod_emod (show (1 : Int) ≤ 8 by omega) (show (8 : Int) ≤ 1000000 by omega), Option.bind_some]
  have : D % 8 = 1 ∨ D % 8 = 3 ∨ D % 8 = 5 ∨ D % 8 = 7 := by omega
  rcases this with h | h | h | h
  · rw [show (-(D : Int)) % 8 = 7 by omega, h]; rfl
  · rw [show (-(D : Int)) % 8 = 5 by omega, h]; rfl
  · rw [show (-(D : Int)) % 8 = 3 by omega, h]; rfl
  · rw [show (-(D : Int)) % 8 = 1 by omega, h]; rfl
theorem stwo_pos {n : Nat} (h : n % 2 = 1) (hn : n ≤ 1000000) : r_spec_syTwo (n : Int) = some (sg (tw n)) := by
  have e : ((n : Int) % 8) = ((n % 8 : Nat) : Int) := by omega
  rw [tw_odd h]
  simp only [r_spec_syTwo, smod_eq, mod_emod (show (1 : Int) ≤ 8 by omega) (show (8 : Int) ≤ 1000000 by omega), Option.bind_some, e]
  have : n % 8 = 1 ∨ n % 8 = 3 ∨ n % 8 = 5 ∨ n % 8 = 7 := by omega
  rcases this with h | h | h | h <;> rw [h] <;> rfl
theorem stwo_neg {D : Nat} (h : D % 2 = 1) : r_spec_syTwo (-(D : Int)) = some (sg (tw D)) := by
  rw [tw_odd h]
  simp only [r_spec_syTwo, smod_eq, mod_emod (show (1 : Int) ≤ 8 by omega) (show (8 : Int) ≤ 1000000 by omega), Option.bind_some]
  have : D % 8 = 1 ∨ D % 8 = 3 ∨ D % 8 = 5 ∨ D % 8 = 7 := by omega
  rcases this with h | h | h | h
  · rw [show (-(D : Int)) % 8 = 7 by omega, h]; rfl
  · rw [show (-(D : Int)) % 8 = 5 by omega, h]; rfl
  · rw [show (-(D : Int)) % 8 = 3 by omega, h]; rfl
  · rw [show (-(D : Int)) % 8 = 1 by omega, h]; rfl
theorem stwo_even {D : Nat} (h : D % 2 = 0) : r_spec_syTwo (-(D : Int)) = some 0 := by
  simp only [r_spec_syTwo, smod_eq, mod_emod (show (1 : Int) ≤ 8 by omega) (show (8 : Int) ≤ 1000000 by omega), Option.bind_some]
  have : D % 8 = 0 ∨ D % 8 = 2 ∨ D % 8 = 4 ∨ D % 8 = 6 := by omega
  rcases this with h | h | h | h
  · rw [show (-(D : Int)) % 8 = 0 by omega]; rfl
  · rw [show (-(D : Int)) % 8 = 6 by omega]; rfl
  · rw [show (-(D : Int)) % 8 = 4 by omega]; rfl
  · rw [show (-(D : Int)) % 8 = 2 by omega]; rfl

/-! ### The program's Jacobi symbol -/
def fnl (o : Option (Int × Int)) : Option Int := o.bind fun o8 => bif (!eqI o8.1 1) then some 0 else some o8.2
/-- The rest of a round of the outer loop. -/
def inn (n : Int) (m : Nat) (o13 : Int × Int) : Option (Int × Int) :=
  (some (bif (eqI (Int.tmod o13.1 4) 3) then (eqI (Int.tmod n 4) 3) else false)).bind fun t19 =>
    bif t19 then (sI (w64 (0 - o13.2)) fun vs21 => (nz o13.1).bind fun z22 => sI (Int.tmod n o13.1) fun a23 => r_impl_jacobi_L7 m a23 o13.1 vs21)
    else ((nz o13.1).bind fun z24 => sI (Int.tmod n o13.1) fun a25 => r_impl_jacobi_L7 m a25 o13.1 o13.2)
theorem L7_succ (m : Nat) (a n s : Int) : r_impl_jacobi_L7 (m + 1) a n s = bif (!eqI a 0) then ((r_impl_jacobi_L12 n FU a s).bind (inn n m)) else some (n, s) := by
  rw [r_impl_jacobi_L7]
  rfl
theorem tmod_nat (a b : Nat) : Int.tmod (a : Int) (b : Int) = ((a % b : Nat) : Int) := rfl
theorem q3_eq (a n : Nat) : (bif (eqI (Int.tmod (a : Int) 4) 3) then (eqI (Int.tmod (n : Int) 4) 3) else false) = (bif q3 a then q3 n else false) := by
  have e : ∀ x : Nat, eqI (Int.tmod (x : Int) 4) 3 = q3 x := by
    intro x
    unfold q3
    rw [nbeq]
    exact eqI_nat (x % 4) 3
  rw [e, e]
theorem jac_run : ∀ (f : Nat) (a n : Nat) (s : Bool) (v : Nat), f ≤ 1000 → jN f a n s = v → v ≠ 3 → n % 2 = 1 → n ≤ 1000000 → a ≤ 1000000 →
    (∀ m, f < m → fnl (r_impl_jacobi_L7 m (a : Int) (n : Int) (sg s)) = some (vl v)) ∧
    (a ≠ 0 → ∀ m j, f ≤ m → f < j → fnl ((r_impl_jacobi_L12 (n : Int) j (a : Int) (sg s)).bind (inn (n : Int) m)) = some (vl v))
  | 0, a, n, s, v, _, h, hv, _, _, _ => absurd h.symm hv
  | f + 1, a, n, s, v, hf, h, hv, hn, hnb, hab => by
    have second : a ≠ 0 → ∀ m j, f + 1 ≤ m → f + 1 < j → fnl ((r_impl_jacobi_L12 (n : Int) j (a : Int) (sg s)).bind (inn (n : Int) m)) = some (vl v) := by
      intro ha m j hm hj
      obtain ⟨j', rfl⟩ : ∃ j', j = j' + 1 := ⟨j - 1, by omega⟩
      rw [r_impl_jacobi_L12]
      rw [jN] at h
      rw [nbeq, decide_eq_false ha, cond_false] at h
      have e2 : Nat.beq (Nat.mod a 2) 0 = decide (a % 2 = 0) := nbeq _ _
      have e3 : eqI (Int.tmod (a : Int) 2) 0 = decide (a % 2 = 0) := eqI_nat (a % 2) 0
      rw [e2] at h
      rw [e3]
      by_cases hev : a % 2 = 0
      · rw [decide_eq_true hev, cond_true] at h
        rw [decide_eq_true hev, cond_true, sI_eq, show Int.tdiv (a : Int) 2 = ((a / 2 : Nat) : Int) from rfl, w64_in (by omega), two_pos hn hnb]
        simp only [Option.bind_some, sI_eq, sg_mul]
        exact (jac_run f (a / 2) n (xr s (tw n)) v (by omega) h hv hn hnb (by omega)).2 (by omega) m j' (by omega) (by omega)
      · rw [decide_eq_false hev, cond_false] at h
        rw [decide_eq_false hev, cond_false]
        simp only [Option.bind_some, inn, q3_eq]
        have hnza : nz (a : Int) = some () := nzP (by omega)
        have hmod : n % a ≤ 1000000 := Nat.le_trans (Nat.mod_le _ _) hnb
        have ih := (jac_run f (n % a) a (xr s (bif q3 a then q3 n else false)) v (by omega) h hv (by omega) hab hmod).1 m (by omega)
        cases hq : (bif q3 a then q3 n else false) with
        | true =>
          rw [hq] at ih
          simp only [cond_true, sI_eq, hnza, Option.bind_some, tmod_nat]
          have es : w64 (0 - sg s) = sg (xr s true) := by cases s <;> rfl
          rw [es]
          exact ih
        | false =>
          rw [hq] at ih
          simp only [cond_false, sI_eq, hnza, Option.bind_some, tmod_nat]
          have es : sg s = sg (xr s false) := by cases s <;> rfl
          rw [es]
          exact ih
    refine ⟨fun m hm => ?_, second⟩
    obtain ⟨m', rfl⟩ : ∃ m', m = m' + 1 := ⟨m - 1, by omega⟩
    rw [L7_succ, show (0 : Int) = ((0 : Nat) : Int) from rfl, eqI_nat]
    by_cases ha : a = 0
    · rw [decide_eq_true ha, Bool.not_true, cond_false]
      rw [jN, nbeq, decide_eq_true ha, cond_true, nbeq] at h
      unfold fnl
      simp only [Option.bind_some]
      rw [show (1 : Int) = ((1 : Nat) : Int) from rfl, eqI_nat]
      by_cases h1 : n = 1
      · rw [decide_eq_true h1, cond_true] at h
        rw [decide_eq_true h1]
        subst h
        cases s <;> rfl
      · rw [decide_eq_false h1, cond_false] at h
        rw [decide_eq_false h1]
        subst h
        rfl
    · rw [decide_eq_false ha, Bool.not_false, cond_true]
      have hFe : FU = 1000000000 := rfl
      exact second ha m' FU (by omega) (by omega)
end Go.Proofs.Ytaegamgeljpboaa
