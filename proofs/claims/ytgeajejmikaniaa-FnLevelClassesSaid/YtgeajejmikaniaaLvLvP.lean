/-
  The first point whose value has no common divisor with a number, both ways, and forms completed at it.
  Conditions: none.
-/
import Derived.Test.YtgeajejmikaniaaLvW64
import Derived.Test.YtgeajejmikaniaaLvCt0
import Derived.Test.YtgeajejmikaniaaLvDscMat
namespace Go.Proofs.Ytgeajejmikaniaa
set_option linter.unusedVariables false
set_option linter.unusedSimpArgs false

/-! ### Such a point is near -/
def ptG (a A B C x y : Nat) : Bool := Nat.beq (Nat.gcd (Nat.add (Nat.add (Nat.mul A (Nat.mul x x)) (Nat.mul B (Nat.mul x y))) (Nat.mul C (Nat.mul y y))) a) 1
def ptA (a A B C : Nat) : Bool := bif ptG a A B C 0 1 then true else bif ptG a A B C 1 0 then true else bif ptG a A B C 1 1 then true else bif ptG a A B C 1 2 then true else bif ptG a A B C 2 1 then true else bif ptG a A B C 1 3 then true else bif ptG a A B C 2 3 then true else bif ptG a A B C 3 1 then true else bif ptG a A B C 3 2 then true else bif ptG a A B C 1 4 then true else bif ptG a A B C 3 4 then true else bif ptG a A B C 4 1 then true else bif ptG a A B C 4 3 then true else bif ptG a A B C 1 5 then true else bif ptG a A B C 2 5 then true else bif ptG a A B C 3 5 then true else bif ptG a A B C 4 5 then true else bif ptG a A B C 5 1 then true else bif ptG a A B C 5 2 then true else bif ptG a A B C 5 3 then true else ptG a A B C 5 4
def ptC (a A B : Nat) : Nat → Bool
  | 0 => true
  | k + 1 => bif (bif Nat.beq (Nat.gcd (Nat.gcd A B) (Nat.gcd k a)) 1 then ptA a A B k else true) then ptC a A B k else false
def ptB (a A : Nat) : Nat → Bool
  | 0 => true
  | k + 1 => bif ptC a A k a then ptB a A k else false
def ptD (a : Nat) : Nat → Bool
  | 0 => true
  | k + 1 => bif ptB a k a then ptD a k else false
def ptE : Nat → Bool
  | 0 => true
  | k + 1 => bif ptD (Nat.succ k) (Nat.succ k) then ptE k else false
theorem ptE_ok : ptE 30 = true := by decide +kernel
theorem bif_and {a b : Bool} (h : (bif a then b else false) = true) : a = true ∧ b = true := by cases a <;> simp_all
theorem ptC_all {a A B : Nat} : ∀ k, ptC a A B k = true → ∀ C, C < k → Nat.gcd (Nat.gcd A B) (Nat.gcd C a) = 1 → ptA a A B C = true
  | 0, _, C, hC, _ => by omega
  | k + 1, h, C, hC, hg => by
    obtain ⟨h1, h2⟩ := bif_and h
    by_cases e : C = k
    · subst e
      have : Nat.beq (Nat.gcd (Nat.gcd A B) (Nat.gcd C a)) 1 = true := by rw [Nat.beq_eq]; exact hg
      rw [this, cond_true] at h1
      exact h1
    · exact ptC_all k h2 C (by omega) hg
theorem ptB_all {a A : Nat} : ∀ k, ptB a A k = true → ∀ B, B < k → ptC a A B a = true
  | 0, _, C, hC => by omega
  | k + 1, h, C, hC => by
    obtain ⟨h1, h2⟩ := bif_and h
    by_cases e : C = k
    · subst e; exact h1
    · exact ptB_all k h2 C (by omega)
theorem ptD_all {a : Nat} : ∀ k, ptD a k = true → ∀ A, A < k → ptB a A a = true
  | 0, _, C, hC => by omega
  | k + 1, h, C, hC => by
    obtain ⟨h1, h2⟩ := bif_and h
    by_cases e : C = k
    · subst e; exact h1
    · exact ptD_all k h2 C (by omega)
theorem ptE_all : ∀ k, ptE k = true → ∀ a, a < k → ptD (a + 1) (a + 1) = true
  | 0, _, C, hC => by omega
  | k + 1, h, C, hC => by
    obtain ⟨h1, h2⟩ := bif_and h
    by_cases e : C = k
    · subst e; exact h1
    · exact ptE_all k h2 C (by omega)
theorem pt_nat {a A B C : Nat} (h1 : 1 ≤ a) (h2 : a ≤ 30) (hA : A < a) (hB : B < a) (hC : C < a) (hg : Nat.gcd (Nat.gcd A B) (Nat.gcd C a) = 1) : ptA a A B C = true := by
  have e := ptE_all 30 ptE_ok (a - 1) (by omega)
  rw [show a - 1 + 1 = a by omega] at e
  exact ptC_all a (ptB_all a (ptD_all a e A hA) B hB) C hC hg
def ptL : List (Int × Int) := [(0, 1), (1, 0), (1, 1), (1, 2), (2, 1), (1, 3), (2, 3), (3, 1), (3, 2), (1, 4), (3, 4), (4, 1), (4, 3), (1, 5), (2, 5), (3, 5), (4, 5), (5, 1), (5, 2), (5, 3), (5, 4)]
theorem gcd_of' {g x y : Int} (h : ∀ c : Int, c ∣ g → (c ∣ x ↔ c ∣ y)) : Int.gcd g x = Int.gcd g y := by
  refine Nat.dvd_antisymm ?_ ?_ <;> apply Int.natCast_dvd_natCast.1
  · exact Int.dvd_coe_gcd (Int.gcd_dvd_left _ _) ((h _ (Int.gcd_dvd_left _ _)).1 (Int.gcd_dvd_right _ _))
  · exact Int.dvd_coe_gcd (Int.gcd_dvd_left _ _) ((h _ (Int.gcd_dvd_left _ _)).2 (Int.gcd_dvd_right _ _))
theorem gcd_mod {v a : Int} {n : Nat} (ha : 1 ≤ a) (hn : a ∣ v - (n : Int)) : Int.gcd v a = Nat.gcd n a.toNat := by
  obtain ⟨k, hk⟩ := hn
  have e : v = (n : Int) + a * k := by omega
  rw [e, Int.gcd_comm, gcd_of' (y := (n : Int)) (fun c hc => by
    obtain ⟨j, hj⟩ := hc
    constructor
    · rintro ⟨i, hi⟩; exact ⟨i - j * k, by rw [Int.mul_sub, ← Int.mul_assoc, ← hj]; omega⟩
    · rintro ⟨i, hi⟩; exact ⟨i + j * k, by rw [Int.mul_add, ← Int.mul_assoc, ← hj]; omega⟩), Int.gcd_comm]
  unfold Int.gcd
  rw [Int.natAbs_natCast]
  congr 1
  omega
theorem emod_nat {x a : Int} (ha : 1 ≤ a) : a ∣ x - ((x % a).toNat : Int) ∧ (x % a).toNat < a.toNat := by
  have h1 := Int.emod_nonneg x (b := a) (by omega)
  have h2 := Int.emod_lt_of_pos x (b := a) (by omega)
  have h3 := Int.emod_add_mul_ediv x a
  exact ⟨⟨x / a, by omega⟩, by omega⟩
theorem pt_ex {a A B C : Int} (h1 : 1 ≤ a) (h2 : a ≤ 30) (hp : ∀ k : Int, k ∣ A → k ∣ B → k ∣ C → k ∣ 1) : ∃ p, p ∈ ptL ∧ Int.gcd (A * p.1 * p.1 + B * p.1 * p.2 + C * p.2 * p.2) a = 1 := by
  obtain ⟨a1, a2⟩ := emod_nat (x := A) h1
  obtain ⟨b1, b2⟩ := emod_nat (x := B) h1
  obtain ⟨c1, c2⟩ := emod_nat (x := C) h1
  generalize (A % a).toNat = A' at *
  generalize (B % a).toNat = B' at *
  generalize (C % a).toNat = C' at *
  have hg : Nat.gcd (Nat.gcd A' B') (Nat.gcd C' a.toNat) = 1 := by
    generalize hG : Nat.gcd (Nat.gcd A' B') (Nat.gcd C' a.toNat) = G
    have g1 : G ∣ A' := hG ▸ Nat.dvd_trans (Nat.gcd_dvd_left _ _) (Nat.gcd_dvd_left _ _)
    have g2 : G ∣ B' := hG ▸ Nat.dvd_trans (Nat.gcd_dvd_left _ _) (Nat.gcd_dvd_right _ _)
    have g3 : G ∣ C' := hG ▸ Nat.dvd_trans (Nat.gcd_dvd_right _ _) (Nat.gcd_dvd_left _ _)
    have g4 : G ∣ a.toNat := hG ▸ Nat.dvd_trans (Nat.gcd_dvd_right _ _) (Nat.gcd_dvd_right _ _)
    have g5 : (G : Int) ∣ a := by
      have : ((a.toNat : Nat) : Int) = a := by omega
      rw [← this]; exact Int.natCast_dvd_natCast.2 g4
    have up : ∀ {X : Int} {X' : Nat}, a ∣ X - (X' : Int) → G ∣ X' → (G : Int) ∣ X := by
      intro X X' u1 u2
      obtain ⟨i, hi⟩ := Int.dvd_trans g5 u1
      obtain ⟨j, hj⟩ := Int.natCast_dvd_natCast.2 u2
      exact ⟨i + j, by rw [Int.mul_add]; omega⟩
    have h := hp G (up a1 g1) (up b1 g2) (up c1 g3)
    have := Int.natCast_dvd_natCast.1 (show (G : Int) ∣ ((1 : Nat) : Int) from h)
    exact Nat.dvd_one.1 this
  have k := pt_nat (by omega) (by omega) a2 b2 c2 hg
  have fin : ∀ x y : Nat, ((x : Int), (y : Int)) ∈ ptL → ptG a.toNat A' B' C' x y = true → ∃ p, p ∈ ptL ∧ Int.gcd (A * p.1 * p.1 + B * p.1 * p.2 + C * p.2 * p.2) a = 1 := by
    intro x y hm hG
    refine ⟨_, hm, ?_⟩
    have e := Nat.eq_of_beq_eq_true hG
    rw [← e]
    refine gcd_mod h1 ?_
    obtain ⟨i, hi⟩ := a1
    obtain ⟨j, hj⟩ := b1
    obtain ⟨l, hl⟩ := c1
    refine ⟨i * (x * x) + j * (x * y) + l * (y * y), ?_⟩
    have eA : A = a * i + A' := by omega
    have eB : B = a * j + B' := by omega
    have eC : C = a * l + C' := by omega
    have e3 : ((((A'.mul (x.mul x)).add (B'.mul (x.mul y))).add (C'.mul (y.mul y)) : Nat) : Int) = A' * (x * x) + B' * (x * y) + C' * (y * y) := by
      simp only [Nat.add_eq, Nat.mul_eq, Int.natCast_add, Int.natCast_mul]
    rw [e3, eA, eB, eC]
    simp only []
    grind
  unfold ptA at k
  by_cases e1 : ptG a.toNat A' B' C' 0 1 = true; · exact fin 0 1 (by decide) e1
  by_cases e2 : ptG a.toNat A' B' C' 1 0 = true; · exact fin 1 0 (by decide) e2
  by_cases e3 : ptG a.toNat A' B' C' 1 1 = true; · exact fin 1 1 (by decide) e3
  by_cases e4 : ptG a.toNat A' B' C' 1 2 = true; · exact fin 1 2 (by decide) e4
  by_cases e5 : ptG a.toNat A' B' C' 2 1 = true; · exact fin 2 1 (by decide) e5
  by_cases e6 : ptG a.toNat A' B' C' 1 3 = true; · exact fin 1 3 (by decide) e6
  by_cases e7 : ptG a.toNat A' B' C' 2 3 = true; · exact fin 2 3 (by decide) e7
  by_cases e8 : ptG a.toNat A' B' C' 3 1 = true; · exact fin 3 1 (by decide) e8
  by_cases e9 : ptG a.toNat A' B' C' 3 2 = true; · exact fin 3 2 (by decide) e9
  by_cases e10 : ptG a.toNat A' B' C' 1 4 = true; · exact fin 1 4 (by decide) e10
  by_cases e11 : ptG a.toNat A' B' C' 3 4 = true; · exact fin 3 4 (by decide) e11
  by_cases e12 : ptG a.toNat A' B' C' 4 1 = true; · exact fin 4 1 (by decide) e12
  by_cases e13 : ptG a.toNat A' B' C' 4 3 = true; · exact fin 4 3 (by decide) e13
  by_cases e14 : ptG a.toNat A' B' C' 1 5 = true; · exact fin 1 5 (by decide) e14
  by_cases e15 : ptG a.toNat A' B' C' 2 5 = true; · exact fin 2 5 (by decide) e15
  by_cases e16 : ptG a.toNat A' B' C' 3 5 = true; · exact fin 3 5 (by decide) e16
  by_cases e17 : ptG a.toNat A' B' C' 4 5 = true; · exact fin 4 5 (by decide) e17
  by_cases e18 : ptG a.toNat A' B' C' 5 1 = true; · exact fin 5 1 (by decide) e18
  by_cases e19 : ptG a.toNat A' B' C' 5 2 = true; · exact fin 5 2 (by decide) e19
  by_cases e20 : ptG a.toNat A' B' C' 5 3 = true; · exact fin 5 3 (by decide) e20
  rw [Bool.not_eq_true] at e1 e2 e3 e4 e5 e6 e7 e8 e9 e10 e11 e12 e13 e14 e15 e16 e17 e18 e19 e20
  rw [e1, e2, e3, e4, e5, e6, e7, e8, e9, e10, e11, e12, e13, e14, e15, e16, e17, e18, e19, e20] at k
  simp only [cond_false] at k
  exact fin 5 4 (by decide) k
end Go.Proofs.Ytgeajejmikaniaa
