/-
  The program's and the reference's Jacobi and Kronecker symbols are those of numbers.
  Conditions: none.
-/
import Derived.Test.YtgeajejmikaniaaFpQr2
namespace Go.Proofs.Ytgeajejmikaniaa
set_option linter.unusedVariables false
set_option linter.unusedSimpArgs false

def xr (a b : Bool) : Bool := bif a then (bif b then false else true) else b
def tw (n : Nat) : Bool := bif Nat.beq (Nat.mod n 8) 3 then true else Nat.beq (Nat.mod n 8) 5
def q3 (n : Nat) : Bool := Nat.beq (Nat.mod n 4) 3
def jN : Nat → Nat → Nat → Bool → Nat
  | 0, _, _, _ => 3
  | f + 1, a, n, s => bif Nat.beq a 0 then (bif Nat.beq n 1 then (bif s then 2 else 1) else 0)
    else bif Nat.beq (Nat.mod a 2) 0 then jN f (Nat.div a 2) n (xr s (tw n))
    else jN f (Nat.mod n a) a (xr s (bif q3 a then q3 n else false))
def sg (s : Bool) : Int := bif s then -1 else 1
def vl : Nat → Int
  | 0 => 0
  | 1 => 1
  | _ => -1
theorem nbeq (a b : Nat) : Nat.beq a b = decide (a = b) := by
  rw [Bool.eq_iff_iff, decide_eq_true_iff, Nat.beq_eq]
theorem eqI_nat (a b : Nat) : eqI (a : Int) (b : Int) = decide (a = b) := by
  rw [eqI_eq, Bool.eq_iff_iff, beq_iff_eq, decide_eq_true_iff]
  omega
theorem sg_mul (s t : Bool) : w64 (sg s * sg t) = sg (xr s t) := by cases s <;> cases t <;> rfl
theorem nzP {b : Int} (h : b ≠ 0) : nz b = some () := by
  unfold nz
  rw [eqI_eq]
  have : (b == 0) = false := by rw [beq_eq_false_iff_ne]; exact h
  rw [this]
  rfl
theorem mod_emod {a m : Int} (h1 : 1 ≤ m) (h2 : m ≤ 1000000) : r_impl_mod a m = some (a % m) := by
  have e := Int.tmod_eq_emod (a := a) (b := m)
  have e1 := Int.emod_nonneg a (b := m) (by omega)
  have e2 := Int.emod_lt_of_pos a (b := m) (by omega)
  simp only [r_impl_mod, nzP (show m ≠ 0 by omega), Option.bind_some, sI_eq, ltI_eq]
  by_cases h : a.tmod m < 0
  · rw [decide_eq_true h, cond_true, w64_in (by split at e <;> omega)]
    congr 1
    split at e <;> omega
  · rw [decide_eq_false h, cond_false]
    congr 1
    split at e <;> omega
theorem smod_eq (a m : Int) : r_spec_nuMod a m = r_impl_mod a m := by
  simp only [r_spec_nuMod, r_impl_mod, sI_eq]
theorem tw_odd {n : Nat} (h : n % 2 = 1) : tw n = !(decide (n % 8 = 1) || decide (n % 8 = 7)) := by
  unfold tw
  rw [nbeq, nbeq]
  show (bif decide (n % 8 = 3) then true else decide (n % 8 = 5)) = _
  have : n % 8 = 1 ∨ n % 8 = 3 ∨ n % 8 = 5 ∨ n % 8 = 7 := by omega
  rcases this with h | h | h | h <;> rw [h] <;> rfl
theorem two_pos {n : Nat} (h : n % 2 = 1) (hn : n ≤ 1000000) : r_impl_symbolOfTwo (n : Int) = some (sg (tw n)) := by
  have e : ((n : Int) % 8) = ((n % 8 : Nat) : Int) := by omega
  rw [tw_odd h]
  simp only [r_impl_symbolOfTwo, mod_emod (show (1 : Int) ≤ 8 by omega) (show (8 : Int) ≤ 1000000 by omega), Option.bind_some, e]
  have : n % 8 = 1 ∨ n % 8 = 3 ∨ n % 8 = 5 ∨ n % 8 = 7 := by omega
  rcases this with h | h | h | h <;> rw [h] <;> rfl
def fnl (o : Option (Int × Int)) : Option Int := o.bind fun o8 => bif (!eqI o8.1 1) then some 0 else some o8.2
def inn (n : Int) (m : Nat) (o13 : Int × Int) : Option (Int × Int) :=
  (some (bif (eqI (Int.tmod o13.1 4) 3) then (eqI (Int.tmod n 4) 3) else false)).bind fun t19 =>
    bif t19 then (sI (w64 (0 - o13.2)) fun vs21 => (nz o13.1).bind fun z22 => sI (Int.tmod n o13.1) fun a23 => r_impl_jacobi_L7 m a23 o13.1 vs21)
    else ((nz o13.1).bind fun z24 => sI (Int.tmod n o13.1) fun a25 => r_impl_jacobi_L7 m a25 o13.1 o13.2)
theorem L7_succ (m : Nat) (a n s : Int) : r_impl_jacobi_L7 (m + 1) a n s = bif (!eqI a 0) then ((r_impl_jacobi_L12 n FU a s).bind (inn n m)) else some (n, s) := by
  rw [r_impl_jacobi_L7]
  rfl
theorem tmod_nat (a b : Nat) : Int.tmod (a : Int) (b : Int) = ((a % b : Nat) : Int) := rfl
theorem q3_eq (a n : Nat) : (bif (eqI (Int.tmod (a : Int) 4) 3) then (eqI (Int.tmod (n : Int) 4) 3) else false) = (bif q3 a then q3 n else false) := by
  have e : ∀ x : Nat, eqI (Int.tmod (x : Int) 4) 3 = q3 x := by
    intro x
    unfold q3
    rw [nbeq]
    exact eqI_nat (x % 4) 3
  rw [e, e]
theorem jac_run : ∀ (f : Nat) (a n : Nat) (s : Bool) (v : Nat), f ≤ 1000 → jN f a n s = v → v ≠ 3 → n % 2 = 1 → n ≤ 1000000 → a ≤ 1000000 →
    (∀ m, f < m → fnl (r_impl_jacobi_L7 m (a : Int) (n : Int) (sg s)) = some (vl v)) ∧
    (a ≠ 0 → ∀ m j, f ≤ m → f < j → fnl ((r_impl_jacobi_L12 (n : Int) j (a : Int) (sg s)).bind (inn (n : Int) m)) = some (vl v))
  | 0, a, n, s, v, _, h, hv, _, _, _ => absurd h.symm hv
  | f + 1, a, n, s, v, hf, h, hv, hn, hnb, hab => by
    have second : a ≠ 0 → ∀ m j, f + 1 ≤ m → f + 1 < j → fnl ((r_impl_jacobi_L12 (n : Int) j (a : Int) (sg s)).bind (inn (n : Int) m)) = some (vl v) := by
      intro ha m j hm hj
      obtain ⟨j', rfl⟩ : ∃ j', j = j' + 1 := ⟨j - 1, by omega⟩
      rw [r_impl_jacobi_L12]
      rw [jN] at h
      rw [nbeq, decide_eq_false ha, cond_false] at h
      have e2 : Nat.beq (Nat.mod a 2) 0 = decide (a % 2 = 0) := nbeq _ _
      have e3 : eqI (Int.tmod (a : Int) 2) 0 = decide (a % 2 = 0) := eqI_nat (a % 2) 0
      rw [e2] at h
      rw [e3]
      by_cases hev : a % 2 = 0
      · rw [decide_eq_true hev, cond_true] at h
        rw [decide_eq_true hev, cond_true, sI_eq, show Int.tdiv (a : Int) 2 = ((a / 2 : Nat) : Int) from rfl, w64_in (by omega), two_pos hn hnb]
        simp only [Option.bind_some, sI_eq, sg_mul]
        exact (jac_run f (a / 2) n (xr s (tw n)) v (by omega) h hv hn hnb (by omega)).2 (by omega) m j' (by omega) (by omega)
      · rw [decide_eq_false hev, cond_false] at h
        rw [decide_eq_false hev, cond_false]
        simp only [Option.bind_some, inn, q3_eq]
        have hnza : nz (a : Int) = some () := nzP (by omega)
        have hmod : n % a ≤ 1000000 := Nat.le_trans (Nat.mod_le _ _) hnb
        have ih := (jac_run f (n % a) a (xr s (bif q3 a then q3 n else false)) v (by omega) h hv (by omega) hab hmod).1 m (by omega)
        cases hq : (bif q3 a then q3 n else false) with
        | true =>
          rw [hq] at ih
          simp only [cond_true, sI_eq, hnza, Option.bind_some, tmod_nat]
          have es : w64 (0 - sg s) = sg (xr s true) := by cases s <;> rfl
          rw [es]
          exact ih
        | false =>
          rw [hq] at ih
          simp only [cond_false, sI_eq, hnza, Option.bind_some, tmod_nat]
          have es : sg s = sg (xr s false) := by cases s <;> rfl
          rw [es]
          exact ih
    refine ⟨fun m hm => ?_, second⟩
    obtain ⟨m', rfl⟩ : ∃ m', m = m' + 1 := ⟨m - 1, by omega⟩
    rw [L7_succ, show (0 : Int) = ((0 : Nat) : Int) from rfl, eqI_nat]
    by_cases ha : a = 0
    · rw [decide_eq_true ha, Bool.not_true, cond_false]
      rw [jN, nbeq, decide_eq_true ha, cond_true, nbeq] at h
      unfold fnl
      simp only [Option.bind_some]
      rw [show (1 : Int) = ((1 : Nat) : Int) from rfl, eqI_nat]
      by_cases h1 : n = 1
      · rw [decide_eq_true h1, cond_true] at h
        rw [decide_eq_true h1]
        subst h
        cases s <;> rfl
      · rw [decide_eq_false h1, cond_false] at h
        rw [decide_eq_false h1]
        subst h
        rfl
    · rw [decide_eq_false ha, Bool.not_false, cond_true]
      have hFe : FU = 1000000000 := rfl
      exact second ha m' FU (by omega) (by omega)
def fn2 (o : Option (Int × Int × Int)) : Option Int := o.bind fun o7 => bif (bif (eqI o7.1 0) then (ltI 1 o7.2.1) else false) then some 0 else some o7.2.2
theorem sg_sq (s : Bool) : sg s * sg s = 1 := by cases s <;> rfl
theorem vl_sg (s : Bool) : vl (bif s then 2 else 1) = sg s := by cases s <;> rfl
theorem sg_xr (s t : Bool) : sg (xr s t) = sg s * sg t := by cases s <;> cases t <;> rfl
theorem sg_tw {n : Nat} (hn : n % 2 = 1) : sg (tw n) = JJ 2 n := by
  rw [JJ_two hn, tw_odd hn]
  have : n % 8 = 1 ∨ n % 8 = 3 ∨ n % 8 = 5 ∨ n % 8 = 7 := by omega
  rcases this with h | h | h | h <;> rw [h] <;> rfl
theorem jN_JJ : ∀ (f a n : Nat) (s : Bool), jN f a n s ≠ 3 → n % 2 = 1 → vl (jN f a n s) = sg s * JJ a n
  | 0, a, n, s, h, _ => absurd rfl h
  | f + 1, a, n, s, h, hn => by
    have e2 : Nat.beq (Nat.mod a 2) 0 = decide (a % 2 = 0) := nbeq _ _
    rw [jN, nbeq, e2] at h ⊢
    by_cases h0 : a = 0
    · rw [decide_eq_true h0, cond_true, nbeq]
      subst h0
      by_cases h1 : n = 1
      · rw [decide_eq_true h1, cond_true, vl_sg, h1, JJ_at1, Int.mul_one]
      · rw [decide_eq_false h1, cond_false, JJ_zero n h1, Int.mul_zero]
        rfl
    · rw [decide_eq_false h0, cond_false] at h ⊢
      by_cases ha : a % 2 = 0
      · rw [decide_eq_true ha, cond_true] at h ⊢
        obtain ⟨b, rfl⟩ : ∃ b, a = 2 * b := ⟨a / 2, by omega⟩
        have e : Nat.div (2 * b) 2 = b := by show 2 * b / 2 = b; omega
        rw [e] at h ⊢
        rw [jN_JJ f b n _ h hn, sg_xr, sg_tw hn, JJ_mul hn]
        grind
      · have ha : a % 2 = 1 := by omega
        rw [decide_eq_false (by omega), cond_false] at h ⊢
        have e : Nat.mod n a = n % a := rfl
        rw [e] at h ⊢
        rw [jN_JJ f (n % a) a _ h ha, sg_xr, JJ_mod, JJ_rec ha hn]
        have eq3 : ∀ x : Nat, q3 x = decide (x % 4 = 3) := fun x => nbeq _ _
        rw [eq3, eq3]
        by_cases c : a % 4 = 3
        · by_cases g : n % 4 = 3
          · rw [if_pos ⟨c, g⟩, decide_eq_true c, decide_eq_true g]
            show sg s * -1 * _ = _
            grind
          · rw [if_neg (fun h => g h.2), decide_eq_true c, decide_eq_false g]
            show sg s * 1 * _ = _
            grind
        · rw [if_neg (fun h => c h.1), decide_eq_false c]
          show sg s * 1 * _ = _
          grind
theorem jN_fuel : ∀ (k f a n : Nat) (s : Bool), 1 ≤ n → a * n < 2 ^ k → 2 * k + (if a ≤ n then 1 else 2) ≤ f → jN f a n s ≠ 3
  | k, 0, a, n, s, _, _, h => by split at h <;> omega
  | k, f + 1, a, n, s, hn, hk, hf => by
    have e2 : Nat.beq (Nat.mod a 2) 0 = decide (a % 2 = 0) := nbeq _ _
    rw [jN, nbeq, e2]
    by_cases h0 : a = 0
    · rw [decide_eq_true h0, cond_true]
      cases Nat.beq n 1 <;> cases s <;> decide
    · rw [decide_eq_false h0, cond_false]
      have hk1 : 1 ≤ k := by
        rcases Nat.eq_zero_or_pos k with e | e
        · subst e
          have : 1 * 1 ≤ a * n := Nat.mul_le_mul (by omega) hn
          omega
        · exact e
      obtain ⟨k', rfl⟩ : ∃ k', k = k' + 1 := ⟨k - 1, by omega⟩
      have hp : (2 : Nat) ^ (k' + 1) = 2 * 2 ^ k' := by rw [Nat.pow_succ]; omega
      by_cases ha : a % 2 = 0
      · rw [decide_eq_true ha, cond_true]
        obtain ⟨b, rfl⟩ : ∃ b, a = 2 * b := ⟨a / 2, by omega⟩
        have e : Nat.div (2 * b) 2 = b := by show 2 * b / 2 = b; omega
        rw [e]
        have h3 : 2 * b * n = 2 * (b * n) := Nat.mul_assoc 2 b n
        refine jN_fuel k' f b n _ hn (by omega) ?_
        split at hf <;> split <;> omega
      · rw [decide_eq_false ha, cond_false]
        have e : Nat.mod n a = n % a := rfl
        rw [e]
        have hlt := Nat.mod_lt n (show 0 < a by omega)
        by_cases hle : a ≤ n
        · rw [if_pos hle] at hf
          have h4 : 2 * (n % a) ≤ n := by
            have := Nat.div_add_mod n a
            have h5 : 1 ≤ n / a := Nat.div_pos hle (by omega)
            have h6 : a * 1 ≤ a * (n / a) := Nat.mul_le_mul_left a h5
            omega
          have h5 : 2 * (n % a) * a ≤ n * a := Nat.mul_le_mul_right a h4
          have h6 : 2 * (n % a) * a = 2 * (n % a * a) := Nat.mul_assoc 2 _ _
          have h7 : n * a = a * n := Nat.mul_comm n a
          refine jN_fuel k' f (n % a) a _ (by omega) (by omega) ?_
          rw [if_pos (by omega)]
          omega
        · rw [if_neg hle] at hf
          have e3 : n % a = n := Nat.mod_eq_of_lt (by omega)
          rw [e3]
          refine jN_fuel (k' + 1) f n a _ (by omega) (by rw [Nat.mul_comm]; exact hk) ?_
          rw [if_pos (by omega)]
          omega
theorem jN_ok {a n : Nat} (h1 : 1 ≤ n) (hn : n ≤ 1000000) (ha : a ≤ 1000000) (s : Bool) : jN 100 a n s ≠ 3 := by
  have h : a * n ≤ 1000000 * 1000000 := Nat.mul_le_mul ha hn
  refine jN_fuel 40 100 a n s h1 (by omega) ?_
  split <;> omega
theorem ij_val {n : Nat} (hn : n % 2 = 1) (hb : n ≤ 1000000) (d : Int) : r_impl_jacobi d (n : Int) = some (JI d n) := by
  have hFe : FU = 1000000000 := rfl
  have hn0 : (n : Int) ≠ 0 := by omega
  have e1 := Int.emod_nonneg d hn0
  have e2 := Int.emod_lt_of_pos d (show (0 : Int) < (n : Int) by omega)
  have hok := jN_ok (a := (d % (n : Int)).toNat) (show 1 ≤ n by omega) hb (by omega) false
  have := (jac_run 100 (d % (n : Int)).toNat n false _ (by omega) rfl hok hn hb (by omega)).1 FU (by omega)
  rw [jN_JJ 100 _ n false hok hn, Int.toNat_of_nonneg e1] at this
  simp only [r_impl_jacobi, mod_emod (a := d) (m := (n : Int)) (by omega) (by omega), Option.bind_some]
  have e3 : sg false * JJ (d % (n : Int)).toNat n = JI d n := by
    show 1 * JJ (d % (n : Int)).toNat n = JI d n
    rw [Int.one_mul]
    rfl
  rw [e3] at this
  exact this
theorem i2_val {d : Int} (h : d % 2 = 1) : r_impl_symbolOfTwo d = some (t2 d) := by
  simp only [r_impl_symbolOfTwo, mod_emod (show (1 : Int) ≤ 8 by omega) (show (8 : Int) ≤ 1000000 by omega), Option.bind_some]
  unfold t2
  rw [if_neg (by omega)]
  have : d % 8 = 1 ∨ d % 8 = 3 ∨ d % 8 = 5 ∨ d % 8 = 7 := by omega
  rcases this with h | h | h | h <;> rw [h] <;> rfl
theorem ev_dec (d : Int) : eqI (Int.tmod d 2) 0 = decide (d % 2 = 0) := by
  rw [eqI_eq, Bool.eq_iff_iff, beq_iff_eq, decide_eq_true_iff]
  have e := Int.tmod_eq_emod (a := d) (b := 2)
  split at e <;> omega
theorem un_in {x : Int} (h : x = 0 ∨ x = 1 ∨ x = -1) : w64 x = x := by rcases h with h | h | h <;> rw [h] <;> rfl
theorem un_mul {x y : Int} (h : x = 0 ∨ x = 1 ∨ x = -1) (g : y = 0 ∨ y = 1 ∨ y = -1) : x * y = 0 ∨ x * y = 1 ∨ x * y = -1 := by
  rcases h with h | h | h <;> rcases g with g | g | g <;> rw [h, g] <;> decide
theorem t2_un (d : Int) : t2 d = 0 ∨ t2 d = 1 ∨ t2 d = -1 := by
  unfold t2
  split
  · exact .inl rfl
  · split
    · exact .inr (.inr rfl)
    · exact .inr (.inl rfl)
def krI (d : Int) (q : (Int × Int) ⊕ Int) : Option Int := match q with
  | .inr r => some r
  | .inl o13 => (r_impl_jacobi d o13.1).bind fun y19 => sI (w64 (o13.2 * y19)) fun t20 => some t20
theorem ik_run (d : Int) : ∀ (f k : Nat) (s : Int), 1 ≤ k → k < 2 ^ f → k ≤ 1000000 → (s = 0 ∨ s = 1 ∨ s = -1) → ∀ m, f ≤ m → ((r_impl_kronecker_L12 d m (k : Int) s).bind (krI d)) = some (s * KK d k)
  | 0, k, s, h1, h2, _, _, m, _ => by simp at h2; omega
  | f + 1, k, s, h1, h2, h3, hs, m, hm => by
    obtain ⟨m', rfl⟩ : ∃ m', m = m' + 1 := ⟨m - 1, by omega⟩
    have hp : (2 : Nat) ^ (f + 1) = 2 * 2 ^ f := by rw [Nat.pow_succ]; omega
    rw [r_impl_kronecker_L12, ev_dec, ev_dec]
    by_cases hk : k % 2 = 0
    · rw [decide_eq_true (by omega), cond_true, KK_even d hk]
      by_cases hd : d % 2 = 0
      · rw [decide_eq_true hd, cond_true]
        have : t2 d = 0 := by unfold t2; rw [if_pos hd]
        rw [this, Int.zero_mul, Int.mul_zero]
        rfl
      · rw [decide_eq_false hd, cond_false, i2_val (by omega)]
        simp only [sI_eq, Option.bind_some, show Int.tdiv (k : Int) 2 = ((k / 2 : Nat) : Int) from rfl]
        rw [w64_in (by omega), un_in (un_mul hs (t2_un d)), ik_run d f (k / 2) (s * t2 d) (by omega) (by omega) (by omega) (un_mul hs (t2_un d)) m' (by omega)]
        rw [Int.mul_assoc]
    · rw [decide_eq_false (by omega), cond_false, KK_odd d (by omega)]
      show krI d (.inl ((k : Int), s)) = _
      unfold krI
      dsimp only
      rw [ij_val (by omega) h3]
      simp only [Option.bind_some, sI_eq]
      rw [un_in (un_mul hs (show JI d k = 0 ∨ JI d k = 1 ∨ JI d k = -1 from JJ_unit))]
theorem ik_val {k : Nat} (h1 : 1 ≤ k) (h2 : k ≤ 1000000) (d : Int) : r_impl_kronecker d (k : Int) = some (KK d k) := by
  have hFe : FU = 1000000000 := rfl
  have h0 : eqI (k : Int) 0 = false := by rw [eqI_eq, beq_eq_false_iff_ne]; omega
  have h3 : ltI (k : Int) 0 = false := by rw [ltI_eq]; exact decide_eq_false (by omega)
  have habs : r_impl_abs (k : Int) = some (k : Int) := by
    have e1 : mxI (k : Int) (-9223372036854775807) = (k : Int) := by
      unfold mxI
      rw [ltI_eq, decide_eq_false (by omega)]
      rfl
    simp only [r_impl_abs, sI_eq, e1]
    rw [w64_in (by omega)]
    unfold mxI
    rw [ltI_eq, decide_eq_false (by omega)]
    rfl
  have := ik_run d 20 k 1 h1 (by omega) h2 (.inr (.inl rfl)) FU (by omega)
  simp only [r_impl_kronecker, h0, h3, cond_false, Option.bind_some, habs]
  rw [Int.one_mul] at this
  exact this
end Go.Proofs.Ytgeajejmikaniaa
