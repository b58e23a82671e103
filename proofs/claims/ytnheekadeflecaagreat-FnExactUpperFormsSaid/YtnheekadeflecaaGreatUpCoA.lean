/-
  Sums and products of 64-bit whole numbers are those of the whole numbers, wrapped once.
  Conditions: none.
-/
import Derived.Test.YtnheekadeflecaaGreatUpDscBas
import Derived.Test.YtnheekadeflecaaGreatUpCt0
import Derived.Test.YtnheekadeflecaaGreatUpDscMat
namespace Go.Proofs.YtnheekadeflecaaGreat
set_option linter.unusedVariables false
set_option linter.unusedSimpArgs false

def bv (x : Int) : BitVec 64 := BitVec.ofInt 64 x
theorem w64_bv (x : Int) : w64 x = (bv x).toInt := by
  rw [w64_eq, bv, BitVec.toInt_ofInt, IntKind.wrap_i64, Int.bmod_def]
  omega
theorem bv_w64 (x : Int) : bv (w64 x) = bv x := by
  rw [w64_bv]
  unfold bv
  rw [BitVec.ofInt_toInt]
theorem w64_congr {x y : Int} (h : bv x = bv y) : w64 x = w64 y := by rw [w64_bv, w64_bv, h]
theorem bv_add (x y : Int) : bv (x + y) = bv x + bv y := BitVec.ofInt_add x y
theorem bv_mul (x y : Int) : bv (x * y) = bv x * bv y := BitVec.ofInt_mul x y
theorem bv_neg (x : Int) : bv (-x) = -bv x := BitVec.ofInt_neg
theorem bv_sub (x y : Int) : bv (x - y) = bv x - bv y := by
  rw [Int.sub_eq_add_neg, bv_add]
  unfold bv
  rw [BitVec.ofInt_neg, BitVec.sub_eq_add_neg]
theorem wml (x y : Int) : w64 (w64 x * y) = w64 (x * y) := w64_congr (by rw [bv_mul, bv_mul, bv_w64])
theorem wmr (x y : Int) : w64 (x * w64 y) = w64 (x * y) := w64_congr (by rw [bv_mul, bv_mul, bv_w64])
theorem wal (x y : Int) : w64 (w64 x + y) = w64 (x + y) := w64_congr (by rw [bv_add, bv_add, bv_w64])
theorem war (x y : Int) : w64 (x + w64 y) = w64 (x + y) := w64_congr (by rw [bv_add, bv_add, bv_w64])
theorem wsl (x y : Int) : w64 (w64 x - y) = w64 (x - y) := w64_congr (by rw [bv_sub, bv_sub, bv_w64])
theorem wsr (x y : Int) : w64 (x - w64 y) = w64 (x - y) := w64_congr (by rw [bv_sub, bv_sub, bv_w64])
theorem at_w (a b c x y : Int) : r_impl_Form_at (a, b, c) x y = some (w64 (a * x * x + b * x * y + c * y * y)) := by
  simp only [r_impl_Form_at, sI_eq, wml, wmr, wal, war, wsl, wsr]
theorem polar_w (a b c x y u v : Int) : r_impl_Form_polar (a, b, c) x y u v = some (w64 (2 * a * x * u + b * (x * v + y * u) + 2 * c * y * v)) := by
  simp only [r_impl_Form_polar, sI_eq, wml, wmr, wal, war, wsl, wsr]
theorem sub_w (a b c p q r s : Int) : r_impl_Form_substitute (a, b, c) (p, q, r, s) = some (w64 (a * p * p + b * p * r + c * r * r), w64 (2 * a * p * q + b * (p * s + r * q) + 2 * c * r * s), w64 (a * q * q + b * q * s + c * s * s)) := by
  simp only [r_impl_Form_substitute, at_w, polar_w, Option.bind_some]
theorem times_w (p q r s p' q' r' s' : Int) : r_impl_Matrix_times (p, q, r, s) (p', q', r', s') = some (w64 (p * p' + q * r'), w64 (p * q' + q * s'), w64 (r * p' + s * r'), w64 (r * q' + s * s')) := by
  simp only [r_impl_Matrix_times, sI_eq, wml, wmr, wal, war, wsl, wsr]
theorem disc_w (a b c : Int) : r_impl_Form_disc (a, b, c) = some (w64 (b * b - 4 * a * c)) := by
  simp only [r_impl_Form_disc, sI_eq, wml, wmr, wal, war, wsl, wsr]
end Go.Proofs.YtnheekadeflecaaGreat
namespace Go.Proofs.YtnheekadeflecaaGreat
set_option linter.unusedVariables false
set_option linter.unusedSimpArgs false

/-! ### Such a point is near -/
def ptG (a A B C x y : Nat) : Bool := Nat.beq (Nat.gcd (Nat.add (Nat.add (Nat.mul A (Nat.mul x x)) (Nat.mul B (Nat.mul x y))) (Nat.mul C (Nat.mul y y))) a) 1
def ptA (a A B C : Nat) : Bool := bif ptG a A B C 0 1 then true else bif ptG a A B C 1 0 then true else bif ptG a A B C 1 1 then true else bif ptG a A B C 1 2 then true else bif ptG a A B C 2 1 then true else bif ptG a A B C 1 3 then true else bif ptG a A B C 2 3 then true else bif ptG a A B C 3 1 then true else ptG a A B C 3 2
def ptC (a A B : Nat) : Nat → Bool
  | 0 => true
  | k + 1 => bif (bif Nat.beq (Nat.gcd (Nat.gcd A B) (Nat.gcd k a)) 1 then ptA a A B k else true) then ptC a A B k else false
def ptB (a A : Nat) : Nat → Bool
  | 0 => true
  | k + 1 => bif ptC a A k a then ptB a A k else false
def ptD (a : Nat) : Nat → Bool
  | 0 => true
  | k + 1 => bif ptB a k a then ptD a k else false
def ptE : Nat → Bool
  | 0 => true
  | k + 1 => bif ptD (Nat.succ k) (Nat.succ k) then ptE k else false
theorem ptE_ok : ptE 25 = true := by decide +kernel
theorem bif_and {a b : Bool} (h : (bif a then b else false) = true) : a = true ∧ b = true := by cases a <;> simp_all
theorem ptC_all {a A B : Nat} : ∀ k, ptC a A B k = true → ∀ C, C < k → Nat.gcd (Nat.gcd A B) (Nat.gcd C a) = 1 → ptA a A B C = true
  | 0, _, C, hC, _ => by omega
  | k + 1, h, C, hC, hg => by
    obtain ⟨h1, h2⟩ := bif_and h
    by_cases e : C = k
    · subst e
      have : Nat.beq (Nat.gcd (Nat.gcd A B) (Nat.gcd C a)) 1 = true := by rw [Nat.beq_eq]; exact hg
      rw [this, cond_true] at h1
      exact h1
    · exact ptC_all k h2 C (by omega) hg
theorem ptB_all {a A : Nat} : ∀ k, ptB a A k = true → ∀ B, B < k → ptC a A B a = true
  | 0, _, C, hC => by omega
  | k + 1, h, C, hC => by
    obtain ⟨h1, h2⟩ := bif_and h
    by_cases e : C = k
    · subst e; exact h1
    · exact ptB_all k h2 C (by omega)
theorem ptD_all {a : Nat} : ∀ k, ptD a k = true → ∀ A, A < k → ptB a A a = true
  | 0, _, C, hC => by omega
  | k + 1, h, C, hC => by
    obtain ⟨h1, h2⟩ := bif_and h
    by_cases e : C = k
    · subst e; exact h1
    · exact ptD_all k h2 C (by omega)
theorem ptE_all : ∀ k, ptE k = true → ∀ a, a < k → ptD (a + 1) (a + 1) = true
  | 0, _, C, hC => by omega
  | k + 1, h, C, hC => by
    obtain ⟨h1, h2⟩ := bif_and h
    by_cases e : C = k
    · subst e; exact h1
    · exact ptE_all k h2 C (by omega)
theorem pt_nat {a A B C : Nat} (h1 : 1 ≤ a) (h2 : a ≤ 25) (hA : A < a) (hB : B < a) (hC : C < a) (hg : Nat.gcd (Nat.gcd A B) (Nat.gcd C a) = 1) : ptA a A B C = true := by
  have e := ptE_all 25 ptE_ok (a - 1) (by omega)
  rw [show a - 1 + 1 = a by omega] at e
  exact ptC_all a (ptB_all a (ptD_all a e A hA) B hB) C hC hg
def ptL : List (Int × Int) := [(0, 1), (1, 0), (1, 1), (1, 2), (2, 1), (1, 3), (2, 3), (3, 1), (3, 2)]
theorem gcd_of' {g x y : Int} (h : ∀ c : Int, c ∣ g → (c ∣ x ↔ c ∣ y)) : Int.gcd g x = Int.gcd g y := by
  refine Nat.dvd_antisymm ?_ ?_ <;> apply Int.natCast_dvd_natCast.1
  · exact Int.dvd_coe_gcd (Int.gcd_dvd_left _ _) ((h _ (Int.gcd_dvd_left _ _)).1 (Int.gcd_dvd_right _ _))
  · exact Int.dvd_coe_gcd (Int.gcd_dvd_left _ _) ((h _ (Int.gcd_dvd_left _ _)).2 (Int.gcd_dvd_right _ _))
theorem gcd_mod {v a : Int} {n : Nat} (ha : 1 ≤ a) (hn : a ∣ v - (n : Int)) : Int.gcd v a = Nat.gcd n a.toNat := by
  obtain ⟨k, hk⟩ := hn
  have e : v = (n : Int) + a * k := by omega
  rw [e, Int.gcd_comm, gcd_of' (y := (n : Int)) (fun c hc => by
    obtain ⟨j, hj⟩ := hc
    constructor
    · rintro ⟨i, hi⟩; exact ⟨i - j * k, by rw [Int.mul_sub, ← Int.mul_assoc, ← hj]; omega⟩
    · rintro ⟨i, hi⟩; exact ⟨i + j * k, by rw [Int.mul_add, ← Int.mul_assoc, ← hj]; omega⟩), Int.gcd_comm]
  unfold Int.gcd
  rw [Int.natAbs_natCast]
  congr 1
  omega
theorem emod_nat {x a : Int} (ha : 1 ≤ a) : a ∣ x - ((x % a).toNat : Int) ∧ (x % a).toNat < a.toNat := by
  have h1 := Int.emod_nonneg x (b := a) (by omega)
  have h2 := Int.emod_lt_of_pos x (b := a) (by omega)
  have h3 := Int.emod_add_mul_ediv x a
  exact ⟨⟨x / a, by omega⟩, by omega⟩
theorem pt_ex {a A B C : Int} (h1 : 1 ≤ a) (h2 : a ≤ 25) (hp : ∀ k : Int, k ∣ A → k ∣ B → k ∣ C → k ∣ 1) : ∃ p, p ∈ ptL ∧ Int.gcd (A * p.1 * p.1 + B * p.1 * p.2 + C * p.2 * p.2) a = 1 := by
  obtain ⟨a1, a2⟩ := emod_nat (x := A) h1
  obtain ⟨b1, b2⟩ := emod_nat (x := B) h1
  obtain ⟨c1, c2⟩ := emod_nat (x := C) h1
  generalize (A % a).toNat = A' at *
  generalize (B % a).toNat = B' at *
  generalize (C % a).toNat = C' at *
  have hg : Nat.gcd (Nat.gcd A' B') (Nat.gcd C' a.toNat) = 1 := by
    generalize hG : Nat.gcd (Nat.gcd A' B') (Nat.gcd C' a.toNat) = G
    have g1 : G ∣ A' := hG ▸ Nat.dvd_trans (Nat.gcd_dvd_left _ _) (Nat.gcd_dvd_left _ _)
    have g2 : G ∣ B' := hG ▸ Nat.dvd_trans (Nat.gcd_dvd_left _ _) (Nat.gcd_dvd_right _ _)
    have g3 : G ∣ C' := hG ▸ Nat.dvd_trans (Nat.gcd_dvd_right _ _) (Nat.gcd_dvd_left _ _)
    have g4 : G ∣ a.toNat := hG ▸ Nat.dvd_trans (Nat.gcd_dvd_right _ _) (Nat.gcd_dvd_right _ _)
    have g5 : (G : Int) ∣ a := by
      have : ((a.toNat : Nat) : Int) = a := by omega
      rw [← this]; exact Int.natCast_dvd_natCast.2 g4
    have up : ∀ {X : Int} {X' : Nat}, a ∣ X - (X' : Int) → G ∣ X' → (G : Int) ∣ X := by
      intro X X' u1 u2
      obtain ⟨i, hi⟩ := Int.dvd_trans g5 u1
      obtain ⟨j, hj⟩ := Int.natCast_dvd_natCast.2 u2
      exact ⟨i + j, by rw [Int.mul_add]; omega⟩
    have h := hp G (up a1 g1) (up b1 g2) (up c1 g3)
    have := Int.natCast_dvd_natCast.1 (show (G : Int) ∣ ((1 : Nat) : Int) from h)
    exact Nat.dvd_one.1 this
  have k := pt_nat (by omega) (by omega) a2 b2 c2 hg
  have fin : ∀ x y : Nat, ((x : Int), (y : Int)) ∈ ptL → ptG a.toNat A' B' C' x y = true → ∃ p, p ∈ ptL ∧ Int.gcd (A * p.1 * p.1 + B * p.1 * p.2 + C * p.2 * p.2) a = 1 := by
    intro x y hm hG
    refine ⟨_, hm, ?_⟩
    have e := Nat.eq_of_beq_eq_true hG
    rw [← e]
    refine gcd_mod h1 ?_
    obtain ⟨i, hi⟩ := a1
    obtain ⟨j, hj⟩ := b1
    obtain ⟨l, hl⟩ := c1
    refine ⟨i * (x * x) + j * (x * y) + l * (y * y), ?_⟩
    have eA : A = a * i + A' := by omega
    have eB : B = a * j + B' := by omega
    have eC : C = a * l + C' := by omega
    have e3 : ((((A'.mul (x.mul x)).add (B'.mul (x.mul y))).add (C'.mul (y.mul y)) : Nat) : Int) = A' * (x * x) + B' * (x * y) + C' * (y * y) := by
      simp only [Nat.add_eq, Nat.mul_eq, Int.natCast_add, Int.natCast_mul]
    rw [e3, eA, eB, eC]
    simp only []
    grind
  unfold ptA at k
  by_cases e1 : ptG a.toNat A' B' C' 0 1 = true; · exact fin 0 1 (by decide) e1
  by_cases e2 : ptG a.toNat A' B' C' 1 0 = true; · exact fin 1 0 (by decide) e2
  by_cases e3 : ptG a.toNat A' B' C' 1 1 = true; · exact fin 1 1 (by decide) e3
  by_cases e4 : ptG a.toNat A' B' C' 1 2 = true; · exact fin 1 2 (by decide) e4
  by_cases e5 : ptG a.toNat A' B' C' 2 1 = true; · exact fin 2 1 (by decide) e5
  by_cases e6 : ptG a.toNat A' B' C' 1 3 = true; · exact fin 1 3 (by decide) e6
  by_cases e7 : ptG a.toNat A' B' C' 2 3 = true; · exact fin 2 3 (by decide) e7
  by_cases e8 : ptG a.toNat A' B' C' 3 1 = true; · exact fin 3 1 (by decide) e8
  rw [Bool.not_eq_true] at e1 e2 e3 e4 e5 e6 e7 e8
  rw [e1, e2, e3, e4, e5, e6, e7, e8] at k
  simp only [cond_false] at k
  exact fin 3 2 (by decide) k
end Go.Proofs.YtnheekadeflecaaGreat
namespace Go.Proofs.YtnheekadeflecaaGreat
set_option linter.unusedVariables false
set_option linter.unusedSimpArgs false

/-- Coefficients of a reduced form. -/
structure Rb (A B C : Int) : Prop where
  a1 : 1 ≤ A
  a2 : A ≤ 26
  b1 : -26 ≤ B
  b2 : B ≤ 26
  c1 : 1 ≤ C
  c2 : C ≤ 1000
def Vl (A B C x y : Int) : Int := A * x * x + B * x * y + C * y * y
def Gd (a A B C s x y : Int) : Prop := mxI x y = s ∧ Int.gcd x y = 1 ∧ Int.gcd (Vl A B C x y) a = 1
theorem mx_val (x y : Int) : mxI x y = max x y := by
  unfold mxI
  rw [ltI_eq]
  by_cases h : x < y
  · rw [decide_eq_true h, cond_true]; omega
  · rw [decide_eq_false h, cond_false]; omega
theorem most_eq (x y : Int) : r_spec_l1Most x y = some (mxI x y) := by
  unfold r_spec_l1Most mxI
  rw [ltI_eq, ltI_eq]
  by_cases h : x < y
  · rw [decide_eq_true h, decide_eq_false (show ¬ y < x by omega)]; rfl
  · rw [decide_eq_false h]
    by_cases h2 : y < x
    · rw [decide_eq_true h2]; rfl
    · rw [decide_eq_false h2, show x = y by omega]; rfl
theorem vl_bd {A B C x y : Int} (h : Rb A B C) (hx : 0 ≤ x) (hx2 : x ≤ 3) (hy : 0 ≤ y) (hy2 : y ≤ 3) : (Vl A B C x y).natAbs ≤ 10000 := by
  obtain ⟨a1, a2, b1, b2, c1, c2⟩ := h
  have m1 : (A * x * x).natAbs ≤ 26 * 3 * 3 := abs_mul (abs_mul (by omega) (by omega)) (by omega)
  have m2 : (B * x * y).natAbs ≤ 26 * 3 * 3 := abs_mul (abs_mul (by omega) (by omega)) (by omega)
  have m3 : (C * y * y).natAbs ≤ 1000 * 3 * 3 := abs_mul (abs_mul (by omega) (by omega)) (by omega)
  unfold Vl
  omega
theorem ptL_of {x y s : Int} (hs : s ≤ 3) (h1 : 0 ≤ x) (h2 : x ≤ s) (h3 : 0 ≤ y) (h4 : y ≤ s) (hg : Int.gcd x y = 1) : (x, y) ∈ ptL := by
  have e1 : x = 0 ∨ x = 1 ∨ x = 2 ∨ x = 3 := by omega
  have e2 : y = 0 ∨ y = 1 ∨ y = 2 ∨ y = 3 := by omega
  rcases e1 with rfl | rfl | rfl | rfl <;> rcases e2 with rfl | rfl | rfl | rfl <;> first | decide | (exfalso; revert hg; decide)
end Go.Proofs.YtnheekadeflecaaGreat
namespace Go.Proofs.YtnheekadeflecaaGreat
set_option linter.unusedVariables false
set_option linter.unusedSimpArgs false

theorem euc_bd {b x d y k : Int} (hk : 0 ≤ k) (hy : 1 ≤ y) (M : Int) (h : (x.natAbs : Int) * d + (b.natAbs : Int) * y ≤ M) : ((b - k * x).natAbs : Int) * y + (x.natAbs : Int) * (d - k * y) ≤ M ∧ ((x.natAbs : Int) * (d - k * y) ≥ 0 → ((b - k * x).natAbs : Int) ≤ M) := by
  have h1 : ((b - k * x).natAbs : Int) ≤ (b.natAbs : Int) + k * (x.natAbs : Int) := by
    have h2 : (b - k * x).natAbs ≤ b.natAbs + (k * x).natAbs := Int.natAbs_sub_le b (k * x)
    have h3 : (((k * x).natAbs : Nat) : Int) = k * (x.natAbs : Int) := by
      rw [Int.natAbs_mul, Int.natCast_mul, Int.natAbs_of_nonneg hk]
    omega
  have h4 : ((b - k * x).natAbs : Int) * y ≤ ((b.natAbs : Int) + k * (x.natAbs : Int)) * y := Int.mul_le_mul_of_nonneg_right h1 (by omega)
  have e : ((b.natAbs : Int) + k * (x.natAbs : Int)) * y + (x.natAbs : Int) * (d - k * y) = (x.natAbs : Int) * d + (b.natAbs : Int) * y := by grind
  have h5 : ((b - k * x).natAbs : Int) * 1 ≤ ((b - k * x).natAbs : Int) * y := Int.mul_le_mul_of_nonneg_left hy (by omega)
  constructor
  · omega
  · intro h6; omega
theorem tdiv_q {d y : Int} (hd : 0 ≤ d) (hy : 1 ≤ y) : 0 ≤ Int.tdiv d y ∧ Int.tdiv d y ≤ d ∧ 0 ≤ d - Int.tdiv d y * y ∧ d - Int.tdiv d y * y < y := by
  have h1 := Int.tmod_add_mul_tdiv d y
  have h2 : 0 ≤ d.tmod y ∧ d.tmod y < y := ⟨Int.tmod_nonneg _ hd, Int.tmod_lt_of_pos _ (by omega)⟩
  have h3 := Int.tdiv_nonneg hd (show 0 ≤ y by omega)
  have e : Int.tdiv d y * y = y * Int.tdiv d y := Int.mul_comm _ _
  have h4 : Int.tdiv d y * 1 ≤ Int.tdiv d y * y := Int.mul_le_mul_of_nonneg_left hy h3
  refine ⟨h3, by omega, by omega, by omega⟩
theorem bigk {k x : Int} {K M : Nat} (h1 : k.natAbs ≤ K) (h2 : x.natAbs ≤ M) (hKM : K * M ≤ 9000000000000) : w64 (k * x) = k * x ∧ (k * x).natAbs ≤ K * M := by
  have := abs_mul h1 h2
  exact ⟨w64_abs (by omega), this⟩
theorem tz {z g : Int} (hg : g ≠ 0) : eqI (Int.tmod z g) 0 = decide (g ∣ z) := by
  rw [eqI_eq, Bool.eq_iff_iff, beq_iff_eq, decide_eq_true_iff]
  exact ⟨Int.dvd_of_tmod_eq_zero, Int.tmod_eq_zero_of_dvd⟩
theorem tdv {a b c : Int} (hb : b ≠ 0) (h : b * c = a) : Int.tdiv a b = c := by
  rw [← h, Int.mul_tdiv_cancel_left _ hb]
end Go.Proofs.YtnheekadeflecaaGreat
namespace Go.Proofs.YtnheekadeflecaaGreat
set_option linter.unusedVariables false
set_option linter.unusedSimpArgs false

structure Cmp (A B C D x y v q0 s0 B0 Q Bh C1 : Int) : Prop where
  hv : A * x * x + B * x * y + C * y * y = v
  v1 : 1 ≤ v
  v2 : v ≤ 10000
  hB0 : 2 * A * x * q0 + B * (x * s0 + y * q0) + 2 * C * y * s0 = B0
  b0 : B0.natAbs ≤ 20000
  hQ : B0 / (2 * v) = Q
  q : Q.natAbs ≤ 20001
  m6 : (-Q * x).natAbs ≤ 60003
  m7 : (-Q * y).natAbs ≤ 60003
  hBh : B0 % (2 * v) = Bh
  e1 : B0 + 2 * v * -Q = Bh
  t1 : 0 ≤ Bh
  t2 : Bh < 2 * v
  e2 : 2 * A * x * (q0 + -Q * x) + B * (x * (s0 + -Q * y) + y * (q0 + -Q * x)) + 2 * C * y * (s0 + -Q * y) = Bh
  hC1 : A * (q0 + -Q * x) * (q0 + -Q * x) + B * (q0 + -Q * x) * (s0 + -Q * y) + C * (s0 + -Q * y) * (s0 + -Q * y) = C1
  em : MatInv A B C x (q0 + -Q * x) y (s0 + -Q * y) v Bh C1
  dis : Bh * Bh - 4 * v * C1 = D
  bb : Bh * Bh ≤ 400000000
  c1 : C1.natAbs ≤ 20000
theorem cmp_e2 (A B C x y q0 s0 Q : Int) : 2 * A * x * (q0 + -Q * x) + B * (x * (s0 + -Q * y) + y * (q0 + -Q * x)) + 2 * C * y * (s0 + -Q * y) = (2 * A * x * q0 + B * (x * s0 + y * q0) + 2 * C * y * s0) + 2 * (A * x * x + B * x * y + C * y * y) * -Q := by grind
theorem cmp_dt (x s0 Q y q0 : Int) : x * (s0 + -Q * y) - (q0 + -Q * x) * y = x * s0 - q0 * y := by grind
theorem cmp_k2 (v : Int) : 4 * v * (v + 2001) = 2 * v * (2 * v) + 8004 * v := by grind
theorem cmp_dis {A B C p q r s a b c : Int} (h : MatInv A B C p q r s a b c) : b * b - 4 * a * c = B * B - 4 * A * C := by
  obtain ⟨f1, f2, f3, f4⟩ := h
  have : b * b - 4 * a * c = (B * B - 4 * A * C) * ((p * s - q * r) * (p * s - q * r)) := by
    rw [← f1, ← f2, ← f3]
    grind
  rw [this, f4]; omega
theorem cmp_b {A B C x y q0 s0 : Int} (h : Rb A B C) (i4 : q0.natAbs ≤ 3) (i5 : s0.natAbs ≤ 3) (i6 : 0 ≤ x) (i7 : x ≤ 3) (i8 : 0 ≤ y) (i9 : y ≤ 3) : (2 * A * x * q0 + B * (x * s0 + y * q0) + 2 * C * y * s0).natAbs ≤ 20000 := by
  obtain ⟨a1, a2, b1, b2, c1, c2⟩ := h
  have m1 : (2 * A * x * q0).natAbs ≤ 2 * 26 * 3 * 3 := abs_mul (abs_mul (abs_mul (by omega) (by omega)) (by omega)) (by omega)
  have m2 : (x * s0).natAbs ≤ 3 * 3 := abs_mul (by omega) (by omega)
  have m3 : (y * q0).natAbs ≤ 3 * 3 := abs_mul (by omega) (by omega)
  have m4 : (B * (x * s0 + y * q0)).natAbs ≤ 26 * 18 := abs_mul (by omega) (by omega)
  have m5 : (2 * C * y * s0).natAbs ≤ 2 * 1000 * 3 * 3 := abs_mul (abs_mul (abs_mul (by omega) (by omega)) (by omega)) (by omega)
  omega
theorem cmp_q {v B0 : Int} (v1 : 1 ≤ v) (hB : B0.natAbs ≤ 20000) : (B0 / (2 * v)).natAbs ≤ 20001 ∧ B0 + 2 * v * -(B0 / (2 * v)) = B0 % (2 * v) ∧ 0 ≤ B0 % (2 * v) ∧ B0 % (2 * v) < 2 * v := by
  have t1 := Int.emod_nonneg B0 (b := 2 * v) (by omega)
  have t2 := Int.emod_lt_of_pos B0 (b := 2 * v) (by omega)
  have t3 := Int.emod_add_mul_ediv B0 (2 * v)
  generalize hQ : B0 / (2 * v) = Q at *
  refine ⟨?_, by rw [Int.mul_neg]; omega, t1, t2⟩
  rcases Int.lt_or_le 20001 Q with h | h
  · have : 2 * v * 20002 ≤ 2 * v * Q := Int.mul_le_mul_of_nonneg_left (by omega) (by omega)
    omega
  · rcases Int.lt_or_le Q (-20001) with h' | h'
    · have : 2 * v * Q ≤ 2 * v * (-20002) := Int.mul_le_mul_of_nonneg_left (by omega) (by omega)
      omega
    · omega
theorem cmp_c {v Bh C1 D : Int} (v1 : 1 ≤ v) (v2 : v ≤ 10000) (hD1 : -2000 ≤ D) (hD2 : D ≤ 0) (t1 : 0 ≤ Bh) (t2 : Bh < 2 * v) (hdis : Bh * Bh - 4 * v * C1 = D) : Bh * Bh ≤ 400000000 ∧ C1.natAbs ≤ 20000 := by
  have hBB : Bh * Bh ≤ 2 * v * (2 * v) := Int.mul_le_mul (by omega) (by omega) t1 (by omega)
  have hBB0 : 0 ≤ Bh * Bh := Int.mul_nonneg t1 t1
  have hBB4 : 2 * v * (2 * v) ≤ 20000 * 20000 := Int.mul_le_mul (by omega) (by omega) (by omega) (by omega)
  have hCu : C1 ≤ v + 2000 := by
    rcases Int.lt_or_le (v + 2000) C1 with h | h
    · have k1 : 4 * v * (v + 2001) ≤ 4 * v * C1 := Int.mul_le_mul_of_nonneg_left (by omega) (by omega)
      have k2 := cmp_k2 v
      omega
    · exact h
  have hCl : -2000 ≤ C1 := by
    rcases Int.lt_or_le C1 (-2000) with h | h
    · have k1 : 4 * v * C1 ≤ 4 * v * (-2001) := Int.mul_le_mul_of_nonneg_left (by omega) (by omega)
      omega
    · exact h
  omega
theorem cmp_mat {A B C x y v q0 s0 Q Bh : Int} (hv : A * x * x + B * x * y + C * y * y = v) (i3 : x * s0 - q0 * y = 1) (e2 : 2 * A * x * (q0 + -Q * x) + B * (x * (s0 + -Q * y) + y * (q0 + -Q * x)) + 2 * C * y * (s0 + -Q * y) = Bh) : MatInv A B C x (q0 + -Q * x) y (s0 + -Q * y) v Bh (A * (q0 + -Q * x) * (q0 + -Q * x) + B * (q0 + -Q * x) * (s0 + -Q * y) + C * (s0 + -Q * y) * (s0 + -Q * y)) := by
  refine ⟨hv, ?_, rfl, ?_⟩
  · rw [← e2, Int.mul_comm (q0 + -Q * x) y]
  · rw [cmp_dt x s0 Q y q0, i3]
theorem cmp_mk {A B C D x y v q0 s0 : Int} (h : Rb A B C) (hD : B * B - 4 * A * C = D) (hD1 : -2000 ≤ D) (hD2 : D ≤ 0) (hv : Vl A B C x y = v) (hv1 : 1 ≤ v) (i3 : x * s0 - q0 * y = 1) (i4 : q0.natAbs ≤ 3) (i5 : s0.natAbs ≤ 3) (i6 : 0 ≤ x) (i7 : x ≤ 3) (i8 : 0 ≤ y) (i9 : y ≤ 3) : ∃ B0 Q Bh C1, Cmp A B C D x y v q0 s0 B0 Q Bh C1 := by
  have hvb := vl_bd h i6 i7 i8 i9
  rw [hv] at hvb
  unfold Vl at hv
  have hB0b := cmp_b h i4 i5 i6 i7 i8 i9
  have ee := cmp_e2 A B C x y q0 s0
  rw [hv] at ee
  obtain ⟨hQb, e1, t1, t2⟩ := cmp_q (v := v) hv1 hB0b
  have e2 := (ee ((2 * A * x * q0 + B * (x * s0 + y * q0) + 2 * C * y * s0) / (2 * v))).trans e1
  have em := cmp_mat hv i3 e2
  have hdis := (cmp_dis em).trans hD
  obtain ⟨hBB, hC⟩ := cmp_c hv1 (by omega) hD1 hD2 t1 t2 hdis
  exact ⟨_, _, _, _, hv, hv1, by omega, rfl, hB0b, rfl, hQb, abs_mul (A := 20001) (B := 3) (by omega) (by omega), abs_mul (A := 20001) (B := 3) (by omega) (by omega), rfl, e1, t1, t2, e2, rfl, em, hdis, hBB, hC⟩
end Go.Proofs.YtnheekadeflecaaGreat
