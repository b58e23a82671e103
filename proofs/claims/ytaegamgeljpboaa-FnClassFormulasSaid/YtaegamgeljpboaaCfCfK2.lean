/-
  The Kronecker symbol of a negative discriminant, both ways, is the quick one.
  Conditions: none.
-/
import Derived.Test.YtaegamgeljpboaaCfCfK
namespace Go.Proofs.Ytaegamgeljpboaa
set_option linter.unusedVariables false
set_option linter.unusedSimpArgs false

def ng (t : Bool) (r : Nat) : Nat := bif t then (match r with | 1 => 2 | 2 => 1 | x => x) else r
theorem xr_assoc (t s u : Bool) : xr (xr t s) u = xr t (xr s u) := by cases t <;> cases s <;> cases u <;> rfl
theorem jN_sign : ∀ (f a n : Nat) (t s : Bool), jN f a n (xr t s) = ng t (jN f a n s)
  | 0, a, n, t, s => by cases t <;> rfl
  | f + 1, a, n, t, s => by
    rw [jN, jN]
    cases Nat.beq a 0 with
    | true =>
      cases Nat.beq n 1 with
      | true => cases t <;> cases s <;> rfl
      | false => cases t <;> rfl
    | false =>
      cases Nat.beq (Nat.mod a 2) 0 with
      | true => rw [cond_false, cond_true, cond_false, cond_true, xr_assoc, jN_sign f]
      | false => rw [cond_false, cond_false, cond_false, cond_false, xr_assoc, jN_sign f]
theorem jN_val : ∀ (f a n : Nat) (s : Bool), jN f a n s ≤ 3
  | 0, a, n, s => Nat.le_refl _
  | f + 1, a, n, s => by
    rw [jN]
    cases Nat.beq a 0 with
    | true =>
      cases Nat.beq n 1 with
      | true => cases s <;> exact Nat.le_of_ble_eq_true rfl
      | false => exact Nat.le_of_ble_eq_true rfl
    | false =>
      cases Nat.beq (Nat.mod a 2) 0 with
      | true => exact jN_val f _ _ _
      | false => exact jN_val f _ _ _
theorem ng3 {t : Bool} {r : Nat} (h : ng t r ≠ 3) : r ≠ 3 := by
  intro e
  subst e
  cases t <;> exact h rfl
theorem vl_ng {t : Bool} {r : Nat} (h : r ≠ 3) (h2 : r ≤ 3) : vl (ng t r) = w64 (sg t * vl r) := by
  have : r = 0 ∨ r = 1 ∨ r = 2 := by omega
  rcases this with rfl | rfl | rfl <;> cases t <;> rfl
theorem neg_mod {D k : Nat} (hk : 1 ≤ k) : (-(D : Int)) % (k : Int) = ((Nat.mod (Nat.sub k (Nat.mod D k)) k : Nat) : Int) := by
  show _ = (((k - D % k) % k : Nat) : Int)
  have h1 := Nat.mod_lt D (show 0 < k by omega)
  have h2 : (D : Int) = (k : Int) * ((D / k : Nat) : Int) + ((D % k : Nat) : Int) := by
    have := Nat.div_add_mod D k
    exact_mod_cast this.symm
  have h3 : -(D : Int) = ((k - D % k : Nat) : Int) + (k : Int) * (-((D / k : Nat) : Int) - 1) := by
    rw [h2]
    have h4 : ((k - D % k : Nat) : Int) = (k : Int) - ((D % k : Nat) : Int) := by omega
    rw [h4]
    grind
  rw [h3, Int.add_mul_emod_self_left]
  omega
theorem ijac {D k : Nat} {v : Nat} (hk : k % 2 = 1) (hk2 : k ≤ 1000000) (h : jN 100 (Nat.mod (Nat.sub k (Nat.mod D k)) k) k false = v) (hv : v ≠ 3) : r_impl_jacobi (-(D : Int)) (k : Int) = some (vl v) := by
  have hFe : FU = 1000000000 := rfl
  have hlt : Nat.mod (Nat.sub k (Nat.mod D k)) k ≤ 1000000 := by
    have := Nat.mod_lt (Nat.sub k (Nat.mod D k)) (show k > 0 by omega)
    show (Nat.sub k (Nat.mod D k)) % k ≤ 1000000
    omega
  have := (jac_run 100 _ k false v (by omega) h hv hk hk2 hlt).1 FU (by omega)
  simp only [r_impl_jacobi, mod_emod (a := -(D : Int)) (m := (k : Int)) (by omega) (by omega), Option.bind_some]
  rw [neg_mod (by omega)]
  exact this

/-! ### The reference's Jacobi symbol -/
def fn2 (o : Option (Int × Int × Int)) : Option Int := o.bind fun o7 => bif (bif (eqI o7.1 0) then (ltI 1 o7.2.1) else false) then some 0 else some o7.2.2
theorem sj_run : ∀ (f a n : Nat) (s : Bool) (v : Nat), jN f a n s = v → v ≠ 3 → n % 2 = 1 → n ≤ 1000000 → a < n → ∀ m, 2 * f < m → fn2 (r_spec_syJacobi_L6 m (a : Int) (n : Int) (sg s)) = some (vl v)
  | 0, a, n, s, v, h, hv, _, _, _, _, _ => absurd h.symm hv
  | f + 1, a, n, s, v, h, hv, hn, hnb, han, m, hm => by
    obtain ⟨m', rfl⟩ : ∃ m', m = m' + 1 + 1 := ⟨m - 2, by omega⟩
    rw [r_spec_syJacobi_L6]
    simp only [r_spec_syEnd, Option.bind_some]
    have e0 : eqI (a : Int) 0 = decide (a = 0) := eqI_nat a 0
    have e1 : eqI (a : Int) 1 = decide (a = 1) := eqI_nat a 1
    rw [e0, e1]
    rw [jN, nbeq] at h
    by_cases ha : a = 0
    · rw [decide_eq_true ha, cond_true, Bool.not_true, cond_false]
      rw [decide_eq_true ha, cond_true, nbeq] at h
      unfold fn2
      simp only [Option.bind_some]
      rw [e0, decide_eq_true ha, cond_true, ltI_eq]
      by_cases h1 : n = 1
      · rw [decide_eq_true h1, cond_true] at h
        rw [decide_eq_false (show ¬ (1 : Int) < (n : Int) by omega), cond_false]
        subst h
        cases s <;> rfl
      · rw [decide_eq_false h1, cond_false] at h
        rw [decide_eq_true (show (1 : Int) < (n : Int) by omega), cond_true]
        subst h
        rfl
    · rw [decide_eq_false ha, cond_false] at h ⊢
      by_cases ha1 : a = 1
      · rw [decide_eq_true ha1, Bool.not_true, cond_false]
        unfold fn2
        simp only [Option.bind_some]
        rw [e0, decide_eq_false ha, cond_false, cond_false]
        subst ha1
        -- the quick way comes to its end, too
        have h2 : jN f (Nat.mod n 1) 1 (xr s (bif q3 1 then q3 n else false)) = v := h
        have h3 : Nat.mod n 1 = 0 := Nat.mod_one n
        have h4 : (bif q3 1 then q3 n else false) = false := rfl
        rw [h3, h4] at h2
        cases f with
        | zero => exact absurd h2.symm hv
        | succ f =>
          have h5 : (bif xr s false then 2 else 1) = v := h2
          subst h5
          cases s <;> rfl
      · rw [decide_eq_false ha1, Bool.not_false, cond_true]
        have hin : r_spec_l1In (a : Int) 0 (w64 ((n : Int) - 1)) = some true := by
          rw [w64_in (by omega)]
          simp only [r_spec_l1In, leI_eq, decide_eq_true (show (0 : Int) ≤ (a : Int) by omega), decide_eq_true (show (a : Int) ≤ (n : Int) - 1 by omega), cond_true]
        have e2 : Nat.beq (Nat.mod a 2) 0 = decide (a % 2 = 0) := nbeq _ _
        have e3 : eqI (Int.tmod (a : Int) 2) 0 = decide (a % 2 = 0) := eqI_nat (a % 2) 0
        rw [e2] at h
        simp only [r_spec_sySuccessor, hin, Option.bind_some, Bool.not_true, cond_false, e3]
        by_cases hev : a % 2 = 0
        · rw [decide_eq_true hev, cond_true] at h
          rw [decide_eq_true hev, cond_true, sI_eq, show Int.tdiv (a : Int) 2 = ((a / 2 : Nat) : Int) from rfl, w64_in (by omega), stwo_pos hn hnb]
          simp only [Option.bind_some, sI_eq, sg_mul]
          exact sj_run f (a / 2) n _ v h hv hn hnb (by omega) (m' + 1) (by omega)
        · rw [decide_eq_false hev, cond_false] at h
          rw [decide_eq_false hev, cond_false]
          simp only [Option.bind_some, q3_eq]
          have hmod : n % a < a := Nat.mod_lt _ (by omega)
          have ih := sj_run f (n % a) a (xr s (bif q3 a then q3 n else false)) v h hv (by omega) (by omega) hmod m' (by omega)
          have hout : r_spec_l1In (n : Int) 0 (w64 ((a : Int) - 1)) = some false := by
            rw [w64_in (by omega)]
            simp only [r_spec_l1In, leI_eq, decide_eq_true (show (0 : Int) ≤ (n : Int) by omega), decide_eq_false (show ¬ (n : Int) ≤ (a : Int) - 1 by omega), cond_true]
          have em : r_spec_nuMod (n : Int) (a : Int) = some ((n % a : Nat) : Int) := by
            rw [smod_eq, mod_emod (by omega) (by omega)]
            rfl
          have n0 : eqI (n : Int) 0 = false := by
            have : eqI (n : Int) ((0 : Nat) : Int) = decide (n = 0) := eqI_nat n 0
            rw [show (0 : Int) = ((0 : Nat) : Int) from rfl, this, decide_eq_false (by omega)]
          have n1 : eqI (n : Int) 1 = false := by
            have : eqI (n : Int) ((1 : Nat) : Int) = decide (n = 1) := eqI_nat n 1
            rw [show (1 : Int) = ((1 : Nat) : Int) from rfl, this, decide_eq_false (by omega)]
          have one : ∀ sgn : Int, r_spec_syJacobi_L6 (m' + 1) (n : Int) (a : Int) sgn = r_spec_syJacobi_L6 m' ((n % a : Nat) : Int) (a : Int) sgn := by
            intro sgn
            rw [r_spec_syJacobi_L6]
            simp only [r_spec_syEnd, n0, n1, Option.bind_some, cond_false, Bool.not_false, cond_true, r_spec_sySuccessor, hout, em]
          cases hq : (bif q3 a then q3 n else false) with
          | true =>
            rw [hq] at ih
            simp only [cond_true, sI_eq, Option.bind_some, one]
            have es : w64 (0 - sg s) = sg (xr s true) := by cases s <;> rfl
            rw [es]
            exact ih
          | false =>
            rw [hq] at ih
            simp only [cond_false, Option.bind_some, one]
            have es : sg s = sg (xr s false) := by cases s <;> rfl
            rw [es]
            exact ih
theorem sjac {D k : Nat} {v : Nat} (hD : 3 ≤ D) (hD2 : D ≤ 2000) (hk : k % 2 = 1) (hk2 : k ≤ 1000000) (h : jN 100 (Nat.mod (Nat.sub k (Nat.mod D k)) k) k false = v) (hv : v ≠ 3) : r_spec_syJacobi (-(D : Int)) (k : Int) = some (vl v) := by
  obtain ⟨m, hm⟩ : ∃ m, FU = m + 1 := ⟨FU - 1, rfl⟩
  have hmb : 999999999 = m := by
    have hFe : FU = 1000000000 := rfl
    omega
  have hlt : Nat.mod (Nat.sub k (Nat.mod D k)) k < k := Nat.mod_lt _ (by omega)
  have ih := sj_run 100 _ k false v h hv hk hk2 hlt m (by omega)
  have key : r_spec_syJacobi_L6 FU (-(D : Int)) (k : Int) 1 = r_spec_syJacobi_L6 m ((Nat.mod (Nat.sub k (Nat.mod D k)) k : Nat) : Int) (k : Int) 1 := by
    rw [hm, r_spec_syJacobi_L6]
    have n0 : eqI (-(D : Int)) 0 = false := by rw [eqI_eq, beq_eq_false_iff_ne]; omega
    have n1 : eqI (-(D : Int)) 1 = false := by rw [eqI_eq, beq_eq_false_iff_ne]; omega
    have hout : r_spec_l1In (-(D : Int)) 0 (w64 ((k : Int) - 1)) = some false := by
      simp only [r_spec_l1In, leI_eq, decide_eq_false (show ¬ (0 : Int) ≤ -(D : Int) by omega), cond_false]
    simp only [r_spec_syEnd, n0, n1, Option.bind_some, cond_false, Bool.not_false, cond_true, r_spec_sySuccessor, hout, smod_eq, mod_emod (a := -(D : Int)) (m := (k : Int)) (by omega) (by omega)]
    rw [neg_mod (by omega)]
  unfold r_spec_syJacobi
  rw [key]
  exact ih

/-! ### The Kronecker symbol -/
theorem zr3 {z : Bool} {r : Nat} (h : zr z r ≠ 3) : r ≠ 3 := by
  intro e
  subst e
  exact h rfl
theorem zr_val {z : Bool} {r : Nat} (h : r ≠ 3) : zr z r = bif z then 0 else r := by
  unfold zr
  rw [nbeq, decide_eq_false h]
  rfl
theorem kN_z : ∀ (f D k : Nat) (s : Bool) (v : Nat), kN f D k s true = v → v ≠ 3 → v = 0
  | 0, D, k, s, v, h, hv => absurd h.symm hv
  | f + 1, D, k, s, v, h, hv => by
    rw [kN] at h
    cases h1 : Nat.beq (Nat.mod k 2) 0 with
    | true =>
      rw [h1, cond_true] at h
      cases h2 : Nat.beq (Nat.mod D 2) 0 with
      | true => rw [h2, cond_true] at h; exact kN_z f D _ s v h hv
      | false => rw [h2, cond_false] at h; exact kN_z f D _ _ v h hv
    | false =>
      rw [h1, cond_false] at h
      rw [zr_val (zr3 (by rw [h]; exact hv))] at h
      exact h.symm
def krest (a : Int) (q : (Int × Int) ⊕ Int) : Option Int := match q with
  | .inr r => some r
  | .inl o13 => (r_impl_jacobi a o13.1).bind fun y19 => sI (w64 (o13.2 * y19)) fun t20 => some t20
theorem ik_run {D : Nat} (hD : 3 ≤ D) (hD2 : D ≤ 2000) : ∀ (f k : Nat) (s : Bool) (v : Nat), kN f D k s false = v → v ≠ 3 → 1 ≤ k → k ≤ 1000000 → ∀ m, f ≤ m → ((r_impl_kronecker_L12 (-(D : Int)) m (k : Int) (sg s)).bind (krest (-(D : Int)))) = some (vl v)
  | 0, k, s, v, h, hv, _, _, _, _ => absurd h.symm hv
  | f + 1, k, s, v, h, hv, hk, hk2, m, hm => by
    obtain ⟨m', rfl⟩ : ∃ m', m = m' + 1 := ⟨m - 1, by omega⟩
    rw [r_impl_kronecker_L12]
    rw [kN] at h
    have e2 : Nat.beq (Nat.mod k 2) 0 = decide (k % 2 = 0) := nbeq _ _
    have e3 : eqI (Int.tmod (k : Int) 2) 0 = decide (k % 2 = 0) := eqI_nat (k % 2) 0
    have e4 : Nat.beq (Nat.mod D 2) 0 = decide (D % 2 = 0) := nbeq _ _
    have e5 : eqI (Int.tmod (-(D : Int)) 2) 0 = decide (D % 2 = 0) := by
      rw [Int.neg_tmod, eqI_eq, Bool.eq_iff_iff, beq_iff_eq, decide_eq_true_iff, show Int.tmod (D : Int) 2 = ((D % 2 : Nat) : Int) from rfl]
      omega
    rw [e2, e4] at h
    rw [e3, e5]
    by_cases hev : k % 2 = 0
    · rw [decide_eq_true hev, cond_true] at h
      rw [decide_eq_true hev, cond_true]
      by_cases hDe : D % 2 = 0
      · rw [decide_eq_true hDe, cond_true] at h
        rw [decide_eq_true hDe, cond_true]
        have := kN_z _ _ _ _ _ h hv
        subst this
        rfl
      · rw [decide_eq_false hDe, cond_false] at h
        rw [decide_eq_false hDe, cond_false, sI_eq, show Int.tdiv (k : Int) 2 = ((k / 2 : Nat) : Int) from rfl, w64_in (by omega), two_neg (by omega)]
        simp only [Option.bind_some, sI_eq, sg_mul]
        exact ik_run hD hD2 f (k / 2) _ v h hv (by omega) (by omega) m' (by omega)
    · rw [decide_eq_false hev, cond_false] at h
      rw [decide_eq_false hev, cond_false]
      have hr := zr3 (by rw [h]; exact hv)
      rw [zr_val hr] at h
      have hs : jN 100 (Nat.mod (Nat.sub k (Nat.mod D k)) k) k s = ng s (jN 100 (Nat.mod (Nat.sub k (Nat.mod D k)) k) k false) := by
        have := jN_sign 100 (Nat.mod (Nat.sub k (Nat.mod D k)) k) k s false
        rw [show xr s false = s by cases s <;> rfl] at this
        exact this
      rw [hs] at hr
      have hj := ijac (D := D) (k := k) (by omega) hk2 rfl (ng3 hr)
      simp only [Option.bind_some, krest, hj, sI_eq]
      rw [cond_false, hs] at h
      rw [← h, vl_ng (ng3 hr) (jN_val _ _ _ _)]
theorem sk_run {D : Nat} (hD : 3 ≤ D) (hD2 : D ≤ 2000) : ∀ (f k : Nat) (s z : Bool) (v : Nat), kN f D k s z = v → v ≠ 3 → 1 ≤ k → k ≤ 1000000 → ∀ m, f ≤ m →
    ((r_spec_syKronecker_L12 (-(D : Int)) m (k : Int) (bif z then 0 else sg s)).bind fun o13 => (r_spec_syJacobi (-(D : Int)) o13.1).bind fun y18 => some (w64 (o13.2 * y18))) = some (vl v)
  | 0, k, s, z, v, h, hv, _, _, _, _ => absurd h.symm hv
  | f + 1, k, s, z, v, h, hv, hk, hk2, m, hm => by
    obtain ⟨m', rfl⟩ : ∃ m', m = m' + 1 := ⟨m - 1, by omega⟩
    rw [r_spec_syKronecker_L12]
    rw [kN] at h
    have e2 : Nat.beq (Nat.mod k 2) 0 = decide (k % 2 = 0) := nbeq _ _
    have e3 : eqI (Int.tmod (k : Int) 2) 0 = decide (k % 2 = 0) := eqI_nat (k % 2) 0
    have e4 : Nat.beq (Nat.mod D 2) 0 = decide (D % 2 = 0) := nbeq _ _
    rw [e2, e4] at h
    rw [e3]
    by_cases hev : k % 2 = 0
    · rw [decide_eq_true hev, cond_true] at h
      rw [decide_eq_true hev, cond_true, sI_eq, show Int.tdiv (k : Int) 2 = ((k / 2 : Nat) : Int) from rfl, w64_in (n := ((k / 2 : Nat) : Int)) (by omega)]
      by_cases hDe : D % 2 = 0
      · rw [decide_eq_true hDe, cond_true] at h
        rw [stwo_even hDe]
        simp only [Option.bind_some, sI_eq, Int.mul_zero]
        exact sk_run hD hD2 f (k / 2) s true v h hv (by omega) (by omega) m' (by omega)
      · rw [decide_eq_false hDe, cond_false] at h
        rw [stwo_neg (by omega)]
        simp only [Option.bind_some, sI_eq]
        have e6 : w64 ((bif z then 0 else sg s) * sg (tw D)) = bif z then 0 else sg (xr s (tw D)) := by
          cases z with
          | true => rw [cond_true, cond_true, Int.zero_mul]; rfl
          | false => rw [cond_false, cond_false, sg_mul]
        rw [e6]
        exact sk_run hD hD2 f (k / 2) _ z v h hv (by omega) (by omega) m' (by omega)
    · rw [decide_eq_false hev, cond_false] at h
      rw [decide_eq_false hev, cond_false]
      have hr := zr3 (by rw [h]; exact hv)
      rw [zr_val hr] at h
      have hs : jN 100 (Nat.mod (Nat.sub k (Nat.mod D k)) k) k s = ng s (jN 100 (Nat.mod (Nat.sub k (Nat.mod D k)) k) k false) := by
        have := jN_sign 100 (Nat.mod (Nat.sub k (Nat.mod D k)) k) k s false
        rw [show xr s false = s by cases s <;> rfl] at this
        exact this
      rw [hs] at hr
      have hj := sjac (D := D) (k := k) hD hD2 (by omega) hk2 rfl (ng3 hr)
      simp only [Option.bind_some, hj, sI_eq]
      cases z with
      | true =>
        rw [cond_true] at h
        subst h
        rw [cond_true, Int.zero_mul]
        rfl
      | false =>
        rw [cond_false, hs] at h
        rw [← h, vl_ng (ng3 hr) (jN_val _ _ _ _)]
        rfl
theorem kron_both {D k : Nat} {v : Nat} (hD : 3 ≤ D) (hD2 : D ≤ 2000) (hk : 1 ≤ k) (hk2 : k ≤ 1000000) (h : kN 100 D k false false = v) (hv : v ≠ 3) : r_impl_kronecker (-(D : Int)) (k : Int) = some (vl v) ∧ r_spec_syKronecker (-(D : Int)) (k : Int) = some (vl v) := by
  have hFe : FU = 1000000000 := rfl
  have h0 : eqI (k : Int) 0 = false := by rw [eqI_eq, beq_eq_false_iff_ne]; omega
  have hl : ltI (k : Int) 0 = false := by rw [ltI_eq, decide_eq_false (by omega)]
  have ha : r_impl_abs (k : Int) = some (k : Int) := by
    simp only [r_impl_abs, sI_eq, mxI, ltI_eq]
    rw [decide_eq_false (show ¬ (k : Int) < -9223372036854775807 by omega), cond_false, w64_in (by omega), decide_eq_false (by omega), cond_false]
  have i1 := ik_run hD hD2 100 k false v h hv hk hk2 FU (by omega)
  have i2 := sk_run hD hD2 100 k false false v h hv hk hk2 FU (by omega)
  constructor
  · simp only [r_impl_kronecker, h0, hl, cond_false, Option.bind_some, ha]
    exact i1
  · simp only [r_spec_syKronecker, h0, hl, cond_false, Option.bind_some, sI_eq]
    exact i2
end Go.Proofs.Ytaegamgeljpboaa
