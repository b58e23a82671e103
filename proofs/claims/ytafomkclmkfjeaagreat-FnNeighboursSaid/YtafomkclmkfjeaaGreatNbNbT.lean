/-
  Kinds of small primes, symbols and prime forms of the discriminants from -2000 to -3: a table.
  Conditions: none.
-/
import Derived.Test.YtafomkclmkfjeaaGreatNbIsM
namespace Go.Proofs.YtafomkclmkfjeaaGreat
set_option linter.unusedVariables false
set_option linter.unusedSimpArgs false

def noRt (D : Int) (n : Nat) : Bool := (List.range (2 * n)).all fun b => !(eqI (Int.emod ((b : Int) * b - D) (4 * (n : Int))) 0)
def okN (D : Int) (n : Nat) : Bool :=
  match r_impl_kronecker D (n : Int), r_impl_primeForm D (n : Int) with
  | some kr, some ((p, b0, c0), ok) => (!(eqI (Int.emod D ((n : Int) * n)) 0 && leI (Int.emod (Int.ediv D ((n : Int) * n)) 4) 1)) && (bif eqI kr (-1) then ((!ok) && noRt D n) else (ok && (eqI p (n : Int) && (eqI (b0 * b0 - 4 * (n : Int) * c0) D && (leI 0 b0 && (leI b0 (n : Int) && (bif eqI kr 0 then eqI (Int.emod b0 (n : Int)) 0 else (eqI kr 1 && !(eqI (Int.emod b0 (n : Int)) 0)))))))))
  | _, _ => false
def okD (D : Int) : Bool :=
  match r_impl_fundamental D with
  | some (e, f) => pN.all fun n => bif eqI (Int.tmod f (n : Int)) 0 then (r_impl_kronecker D (n : Int)).isSome else okN D n
  | none => false
def okDs (lo : Nat) : Nat → Bool
  | 0 => true
  | k + 1 => bif (bif leI (Int.emod (-((lo + k : Nat) : Int)) 4) 1 then okD (-((lo + k : Nat) : Int)) else true) then okDs lo k else false
theorem okDs_at (lo : Nat) : ∀ (n : Nat), okDs lo n = true → ∀ k, k < n → (-((lo + k : Nat) : Int)) % 4 ≤ 1 → okD (-((lo + k : Nat) : Int)) = true
  | 0, _, k, h, _ => by omega
  | n + 1, h, k, hk, h4 => by
    unfold okDs at h
    cases hc : (bif leI (Int.emod (-((lo + n : Nat) : Int)) 4) 1 then okD (-((lo + n : Nat) : Int)) else true) with
    | false => rw [hc] at h; cases h
    | true =>
      rw [hc, cond_true] at h
      by_cases e : k = n
      · subst e
        rw [leI_eq, decide_eq_true (show (-((lo + k : Nat) : Int)).emod 4 ≤ 1 from h4), cond_true] at hc
        exact hc
      · exact okDs_at lo n h k (by omega) h4
theorem okD1 : okDs 3 400 = true := by decide +kernel
theorem okD2 : okDs 403 400 = true := by decide +kernel
theorem okD3 : okDs 803 400 = true := by decide +kernel
theorem okD4 : okDs 1203 400 = true := by decide +kernel
theorem okD5 : okDs 1603 398 = true := by decide +kernel
theorem okD_all {D : Int} (h1 : -2000 ≤ D) (h2 : D ≤ -3) (h4 : D % 4 ≤ 1) : okD D = true := by
  have mk : ∀ lo n, okDs lo n = true → (lo : Int) ≤ -D → -D < lo + n → okD D = true := by
    intro lo n h a1 a2
    have e : D = -((lo + (-D - lo).toNat : Nat) : Int) := by omega
    rw [e]
    exact okDs_at lo n h _ (by omega) (by rw [← e]; exact h4)
  rcases Int.lt_or_le (-D) 403 with h | h
  · exact mk 3 400 okD1 (by omega) (by omega)
  rcases Int.lt_or_le (-D) 803 with h | h
  · exact mk 403 400 okD2 (by omega) (by omega)
  rcases Int.lt_or_le (-D) 1203 with h | h
  · exact mk 803 400 okD3 (by omega) (by omega)
  rcases Int.lt_or_le (-D) 1603 with h | h
  · exact mk 1203 400 okD4 (by omega) (by omega)
  · exact mk 1603 398 okD5 (by omega) (by omega)
/-- What the table says of a discriminant and a prime that is not singular. -/
structure GdN (D : Int) (n : Nat) (kr : Int) : Prop where
  out : ¬ ((n : Int) * n ∣ D ∧ D / ((n : Int) * n) % 4 ≤ 1)
  sym : (kr = -1 ∧ (∃ P, r_impl_primeForm D (n : Int) = some (P, false)) ∧ ∀ b : Int, 0 ≤ b → b < 2 * n → ¬ 4 * (n : Int) ∣ b * b - D) ∨ ∃ b0 c0, r_impl_primeForm D (n : Int) = some (((n : Int), b0, c0), true) ∧ b0 * b0 - 4 * n * c0 = D ∧ 0 ≤ b0 ∧ b0 ≤ n ∧ ((kr = 0 ∧ (n : Int) ∣ b0) ∨ (kr = 1 ∧ ¬ (n : Int) ∣ b0))
theorem gd_of {D : Int} {n : Nat} (h : okN D n = true) : ∃ kr, r_impl_kronecker D (n : Int) = some kr ∧ GdN D n kr := by
  unfold okN at h
  cases h1 : r_impl_kronecker D (n : Int) with
  | none => rw [h1] at h; cases h
  | some kr =>
    cases h2 : r_impl_primeForm D (n : Int) with
    | none => rw [h1, h2] at h; cases h
    | some q =>
      obtain ⟨⟨p, b0, c0⟩, ok⟩ := q
      rw [h1, h2] at h
      simp only [Bool.and_eq_true, Bool.not_eq_true', Bool.and_eq_false_iff] at h
      obtain ⟨g1, g2⟩ := h
      refine ⟨kr, rfl, ⟨?_, ?_⟩⟩
      · rintro ⟨u1, u2⟩
        rcases g1 with g1 | g1
        · rw [eqI_eq, show (Int.emod D ((n : Int) * n)) = 0 from Int.emod_eq_zero_of_dvd u1] at g1
          cases g1
        · rw [leI_eq, decide_eq_true (show Int.emod (Int.ediv D ((n : Int) * n)) 4 ≤ 1 from u2)] at g1
          cases g1
      · cases h3 : eqI kr (-1) with
        | true =>
          rw [h3, cond_true, Bool.and_eq_true] at g2
          left
          rw [eqI_eq, beq_iff_eq] at h3
          obtain ⟨g3, g4⟩ := g2
          have e : ok = false := by cases ok with
            | true => cases g3
            | false => rfl
          subst e
          refine ⟨h3, ⟨_, h2⟩, fun b b1 b2 hd => ?_⟩
          unfold noRt at g4
          have g5 := List.all_eq_true.1 g4 b.toNat (List.mem_range.2 (by omega))
          have e2 : ((b.toNat : Nat) : Int) = b := Int.toNat_of_nonneg b1
          rw [e2, eqI_eq, show Int.emod (b * b - D) (4 * (n : Int)) = 0 from Int.emod_eq_zero_of_dvd hd] at g5
          cases g5
        | false =>
          rw [h3, cond_false] at g2
          right
          simp only [Bool.and_eq_true, eqI_eq, leI_eq, beq_iff_eq, decide_eq_true_iff] at g2
          obtain ⟨g3, g4, g5, g6, g7, g8⟩ := g2
          subst g3 g4
          refine ⟨b0, c0, h2, g5, g6, g7, ?_⟩
          by_cases hk : kr = 0
          · subst hk
            rw [beq_self_eq_true, cond_true, beq_iff_eq] at g8
            exact .inl ⟨rfl, Int.dvd_of_emod_eq_zero g8⟩
          · rw [beq_false_of_ne hk, cond_false, Bool.and_eq_true, beq_iff_eq, Bool.not_eq_true', beq_eq_false_iff_ne] at g8
            exact .inr ⟨g8.1, fun hd => g8.2 (Int.emod_eq_zero_of_dvd hd)⟩
def okPr (n : Nat) : Bool := (r_impl_IsPrime (n : Int) == some true) && (r_impl_isShownPrime (n : Int) == some true)
theorem okPr_all : (pN.all okPr) = true := by decide +kernel
theorem isPr_val {n : Nat} (hn : n ∈ pN) : r_impl_IsPrime (n : Int) = some true ∧ r_impl_isShownPrime (n : Int) = some true := by
  have h := List.all_eq_true.1 okPr_all n hn
  unfold okPr at h
  rw [Bool.and_eq_true, beq_iff_eq, beq_iff_eq] at h
  exact h
theorem kind_val {D : Int} {n : Nat} (h1 : -2000 ≤ D) (h2 : D ≤ -3) (h4 : D % 4 ≤ 1) (hn : n ∈ pN) : ∃ kr kd, r_impl_kronecker D (n : Int) = some kr ∧ r_impl_kindOfPrime D (n : Int) = some kd ∧ (kd = 4 ∨ (kd ≠ 4 ∧ GdN D n kr)) := by
  have h := okD_all h1 h2 h4
  obtain ⟨n2, n3⟩ := pN_bd hn
  unfold okD at h
  cases hf : r_impl_fundamental D with
  | none => rw [hf] at h; cases h
  | some ef =>
    obtain ⟨e, f⟩ := ef
    rw [hf] at h
    have h := List.all_eq_true.1 h n hn
    simp only [r_impl_kindOfPrime, hf, Option.bind_some]
    rw [nz_ne (show (n : Int) ≠ 0 by omega)]
    simp only [Option.bind_some]
    cases hc : eqI (Int.tmod f (n : Int)) 0 with
    | true =>
      rw [hc, cond_true] at h
      obtain ⟨kr, hk⟩ := Option.isSome_iff_exists.1 h
      exact ⟨kr, 4, hk, rfl, .inl rfl⟩
    | false =>
      rw [hc, cond_false] at h
      obtain ⟨kr, hk, hg⟩ := gd_of h
      simp only [cond_false, hk, Option.bind_some]
      rcases hg.sym with ⟨e, _⟩ | ⟨_, _, _, _, _, _, ⟨e, _⟩ | ⟨e, _⟩⟩
      · subst e; exact ⟨_, 1, rfl, rfl, .inr ⟨by decide, hg⟩⟩
      · subst e; exact ⟨_, 3, rfl, rfl, .inr ⟨by decide, hg⟩⟩
      · subst e; exact ⟨_, 2, rfl, rfl, .inr ⟨by decide, hg⟩⟩
end Go.Proofs.YtafomkclmkfjeaaGreat
