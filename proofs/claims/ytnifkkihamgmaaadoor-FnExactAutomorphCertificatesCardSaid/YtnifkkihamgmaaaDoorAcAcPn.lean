/-
  The automorphs are alike both ways.
  Conditions: none.
-/
import Derived.Test.YtnifkkihamgmaaaDoorAcAcPm
namespace Go.Proofs.YtnifkkihamgmaaaDoor
set_option linter.unusedVariables false
set_option linter.unusedSimpArgs false

theorem sg_run : ∀ (k n : Nat) (a b : Int), b.natAbs < 2 ^ k → 2 * k + 1 ≤ n → ∃ r, r_spec_nuGcd_L7 n a b = some r ∧ r.natAbs = Int.gcd a b
  | k, 0, a, b, _, hn => by omega
  | 0, n + 1, a, b, hb, hn => by
    have : b = 0 := by simp at hb; omega
    subst this
    unfold r_spec_nuGcd_L7
    rw [eqI_true]
    exact ⟨a, rfl, by simp⟩
  | k + 1, n + 1, a, b, hb, hn => by
    unfold r_spec_nuGcd_L7
    by_cases h0 : b = 0
    · subst h0
      rw [eqI_true]
      exact ⟨a, rfl, by simp⟩
    · rw [eqI_false h0, nz_ne h0]
      simp only [Bool.not_false, cond_true, Option.bind_some, sI_eq]
      rw [← igcd_step a b]
      match n, hn with
      | n + 1, hn =>
        unfold r_spec_nuGcd_L7
        by_cases h1 : a.tmod b = 0
        · rw [h1, eqI_true]
          exact ⟨b, rfl, by simp⟩
        · rw [eqI_false h1, nz_ne h1]
          simp only [Bool.not_false, cond_true, Option.bind_some, sI_eq]
          rw [← igcd_step b (a.tmod b)]
          refine sg_run k n _ _ ?_ (by omega)
          rw [Int.natAbs_tmod]
          have h2 : (a.tmod b).natAbs < b.natAbs := by rw [Int.natAbs_tmod]; exact Nat.mod_lt _ (by omega)
          exact gcd_two k (by omega) h2 hb
theorem sn_run : ∀ (n : Nat) (a b r : Int), 0 ≤ a → 0 ≤ b → r_spec_nuGcd_L7 n a b = some r → 0 ≤ r
  | 0, a, b, r, _, _, h => by cases h
  | n + 1, a, b, r, ha, hb, h => by
    unfold r_spec_nuGcd_L7 at h
    by_cases h0 : b = 0
    · subst h0
      rw [eqI_true] at h
      have h : some a = some r := h
      injection h with h
      omega
    · rw [eqI_false h0, nz_ne h0] at h
      simp only [Bool.not_false, cond_true, Option.bind_some, sI_eq] at h
      exact sn_run n _ _ _ hb (Int.tmod_nonneg _ ha) h
theorem sgcd_val2 {a b : Int} (ha : a.natAbs ≤ 9223372036854775806) (hb : b.natAbs ≤ 9223372036854775806) : r_spec_nuGcd a b = some (Int.gcd a b : Int) := by
  obtain ⟨r, h1, h2⟩ := sg_run 64 FU (a.natAbs : Int) (b.natAbs : Int) (by omega) (Nat.le_trans (by decide : 129 ≤ 1000000) (by decide))
  have h3 := sn_run _ _ _ _ (by omega) (by omega) h1
  rw [natAbs_natAbs] at h2
  simp only [r_spec_nuGcd, sabs_val ha, sabs_val hb, Option.bind_some, h1]
  congr 1
  omega
theorem scontent_val2 {a b c : Int} (ha : inN a = true) (hb : inN b = true) (hc : inN c = true) : r_spec_foContent (a, b, c) = some (Int.gcd a (Int.gcd b c) : Int) := by
  rw [inN_iff] at ha hb hc
  have h := gcd_le (a := a) (b := b) (M := 1000000) (by omega) (by omega)
  simp only [r_spec_foContent, sgcd_val2 (a := a) (b := b) (by omega) (by omega), Option.bind_some]
  rw [sgcd_val2 (by omega) (by omega), Option.bind_some]
  congr 2
  unfold Int.gcd
  simp [Nat.gcd_assoc]
theorem FUs (k : Nat) (h : k ≤ 1000000) : k ≤ FU := Nat.le_trans h (by decide)
theorem in_of_def' {f : Int × Int × Int} (h : r_impl_isDefinite f = some true) : inN f.1 = true ∧ inN f.2.1 = true ∧ inN f.2.2 = true := by
  simp only [r_impl_isDefinite, form_val, Option.bind_some] at h
  cases ha : inN f.1 with
  | false => rw [ha] at h; simp at h
  | true =>
    cases hb : inN f.2.1 with
    | false => rw [ha, hb] at h; simp at h
    | true =>
      cases hc : inN f.2.2 with
      | false => rw [ha, hb, hc] at h; simp at h
      | true => exact ⟨rfl, rfl, rfl⟩
theorem abs_part {k a : Int} (hk : k ≠ 0) : a.natAbs ≤ (k * a).natAbs := by
  rw [Int.natAbs_mul]
  exact Nat.le_mul_of_pos_left _ (Int.natAbs_pos.2 hk)
theorem kc {k x y : Int} (hk : k ≠ 0) (h : k * x = k * y) : x = y := Int.eq_of_mul_eq_mul_left hk h
theorem mem_fold {m : M4} : ∀ {As l : List M4}, m ∈ As.foldl (fun l A => insR A l) l → m ∈ As ∨ m ∈ l
  | [], l, h => .inr h
  | A :: As, l, h => by
    rw [List.foldl_cons] at h
    rcases mem_fold h with h | h
    · exact .inl (List.mem_cons_of_mem _ h)
    · rcases mem_insR h with h | h
      · exact .inl (by rw [h]; exact List.mem_cons_self)
      · exact .inr h
theorem len_fold : ∀ (As l : List M4), (As.foldl (fun l A => insR A l) l).length = l.length + As.length
  | [], l => rfl
  | A :: As, l => by
    rw [List.foldl_cons, len_fold As, insR_len, List.length_cons]
    omega
/-- A reduced form of small discriminant. -/
theorem red_one {α β γ d : Int} (hα : 1 ≤ α) (hr : (-α < β ∧ β ≤ α) ∧ (α < γ ∨ (α = γ ∧ 0 ≤ β))) (hd : β * β - 4 * α * γ = d) (h : -4 ≤ d) : α = 1 := by
  obtain ⟨⟨b1, b2⟩, hr⟩ := hr
  have hac : α ≤ γ := by omega
  have h1 : α * α ≤ α * γ := Int.mul_le_mul_of_nonneg_left hac (by omega)
  have h2 := ab (abs_mul (x := β) (y := β) (A := α.natAbs) (B := α.natAbs) (by omega) (by omega))
  have h3 : ((α.natAbs * α.natAbs : Nat) : Int) = α * α := Int.natAbs_mul_self
  rw [h3] at h2
  have h4 : 4 * α * γ = 4 * (α * γ) := by rw [Int.mul_assoc]
  rcases Int.lt_or_le 1 α with h5 | h5
  · have h6 : 2 * 2 ≤ α * α := Int.mul_le_mul (by omega) (by omega) (by decide) (by omega)
    omega
  · omega
theorem sq_mod4 (b : Int) : b * b % 4 = 0 ∨ b * b % 4 = 1 := by
  rcases (show b % 2 = 0 ∨ b % 2 = 1 by omega) with h | h
  · obtain ⟨q, hq⟩ := Int.dvd_of_emod_eq_zero h
    have : b * b = 4 * (q * q) := by rw [hq]; grind
    omega
  · have hq : b = 2 * (b / 2) + 1 := by omega
    have : b * b = 4 * ((b / 2) * (b / 2) + b / 2) + 1 := by
      generalize b / 2 = q at *
      rw [hq]
      grind
    omega
theorem perm4 (a b c d : M4) : insR d (insR c (insR b (insR a []))) = insR a (insR b (insR d (insR c []))) := by
  rw [insR_comm b a, insR_comm c a, insR_comm d a, insR_comm c b, insR_comm d b]
theorem perm6 (a b c d e f : M4) : insR f (insR e (insR d (insR c (insR b (insR a []))))) = insR a (insR b (insR c (insR f (insR e (insR d []))))) := by
  rw [insR_comm b a, insR_comm c a, insR_comm d a, insR_comm e a, insR_comm f a, insR_comm c b, insR_comm d b, insR_comm e b, insR_comm f b, insR_comm d c, insR_comm e c, insR_comm f c]
theorem auto_fin {A B C : Int} (hdef : r_impl_isDefinite (A, B, C) = some true) {g2 : Int × Int × Int} {r V : M4} {Ts As : List M4} (k1 : r_impl_reduce (A, B, C) = some (g2, r)) (k2 : r_impl_Form_turns g2 = some Ts) (h2 : r_impl_Matrix_inverse r = some V) (hkb : Ts.length ≤ 50) (hlen : As.length = Ts.length)
    (hT : ∀ k (hk : k < Ts.length) (hk2 : k < As.length), ∃ Z, r_impl_Matrix_times r Ts[k] = some Z ∧ r_impl_Matrix_times Z V = some As[k] ∧ r_impl_IsMatrix As[k] = some true) :
    r_impl_Automorphs (A, B, C) = some (As.foldl (fun l A => insR A l) [], true) ∧ (As.foldl (fun l A => insR A l) []).length ≤ 50 ∧ ∀ m ∈ As.foldl (fun l A => insR A l) [], r_impl_IsMatrix m = some true := by
  refine ⟨?_, ?_, fun m hm => ?_⟩
  · have h8 := L8_run (y4 := (g2, r)) hkb h2 hlen hT FU 0 [] List.Pairwise.nil (Nat.le_refl _) (Nat.zero_le _) (by have := FUge; omega)
    rw [List.drop_zero] at h8
    have h8 : r_impl_Automorphs_L8 (g2, r) Ts FU 0 [] = _ := h8
    simp only [r_impl_Automorphs, hdef, k1, k2, h8, Option.bind_some, Bool.not_true, cond_false]
  · rw [len_fold]
    simp only [List.length_nil]
    omega
  · rcases mem_fold hm with hm | hm
    · obtain ⟨k, hk, rfl⟩ := List.getElem_of_mem hm
      obtain ⟨_, _, _, h⟩ := hT k (by omega) hk
      exact h
    · cases hm
theorem two_of {P : (k : Nat) → Prop} (h0 : P 0) (h1 : P 1) : ∀ k, k < 2 → P k := by
  intro k hk
  match k, hk with
  | 0, _ => exact h0
  | 1, _ => exact h1
theorem auto_both {A B C : Int} (hdef : r_impl_isDefinite (A, B, C) = some true) : ∃ l, r_spec_reAutomorphs (A, B, C) = some l ∧ r_impl_Automorphs (A, B, C) = some (l, true) ∧ l.length ≤ 50 ∧ ∀ m ∈ l, r_impl_IsMatrix m = some true := by
  obtain ⟨iA, iB, iC⟩ := in_of_def' hdef
  dsimp only at iA iB iC
  obtain ⟨g, hi, hcM⟩ := red_of_def hdef
  obtain ⟨m1, m2, m3, m4, a2, b2, c2, k1, q2, q3, q4, s1, s2, s3, s4⟩ := red_imp hi hcM
  have hcont := scontent_val2 iA iB iC
  have dA : (Int.gcd A (Int.gcd B C) : Int) ∣ A := Int.gcd_dvd_left ..
  have dBC : (Int.gcd A (Int.gcd B C) : Int) ∣ (Int.gcd B C : Int) := Int.gcd_dvd_right ..
  have dB : (Int.gcd A (Int.gcd B C) : Int) ∣ B := Int.dvd_trans dBC (Int.gcd_dvd_left ..)
  have dC : (Int.gcd A (Int.gcd B C) : Int) ∣ C := Int.dvd_trans dBC (Int.gcd_dvd_right ..)
  have hgk : ∀ z : Int, z ∣ g → z ∣ (Int.gcd A (Int.gcd B C) : Int) := fun z hz => by
    obtain ⟨z1, z2, z3⟩ := (hi.con z).2 hz
    exact Int.dvd_coe_gcd z1 (Int.dvd_coe_gcd z2 z3)
  have hk0 : 0 ≤ (Int.gcd A (Int.gcd B C) : Int) := Int.natCast_nonneg _
  generalize (Int.gcd A (Int.gcd B C) : Int) = k at *
  obtain ⟨y1, y2, y3⟩ := (q2.con k).2 ((hi.con k).1 ⟨dA, dB, dC⟩)
  obtain ⟨a, rfl⟩ := dA
  obtain ⟨b, rfl⟩ := dB
  obtain ⟨c, rfl⟩ := dC
  obtain ⟨α, rfl⟩ := y1
  obtain ⟨β, rfl⟩ := y2
  obtain ⟨γ, rfl⟩ := y3
  have hkne : k ≠ 0 := fun e => by
    have := hi.a1
    rw [e, Int.zero_mul] at this
    omega
  have hkp : 0 < k := by omega
  have bA := abs_part (a := a) hkne
  have bB := abs_part (a := b) hkne
  have bC := abs_part (a := c) hkne
  have iA2 := inN_iff.1 iA
  have iB2 := inN_iff.1 iB
  have iC2 := inN_iff.1 iC
  have ba : a.natAbs ≤ 1000000 := by omega
  have bb : b.natAbs ≤ 1000000 := by omega
  have bc : c.natAbs ≤ 1000000 := by omega
  -- discriminants
  have hdis := q2.dis
  have hneg := hi.neg
  have hdd : β * β - 4 * α * γ = b * b - 4 * a * c := by
    refine kc hkne (kc hkne ?_)
    grind
  have hdneg : b * b - 4 * a * c < 0 := by
    rcases Int.lt_or_le (b * b - 4 * a * c) 0 with h | h
    · exact h
    · exfalso
      have h5 : 0 ≤ k * (k * (b * b - 4 * a * c)) := Int.mul_nonneg hk0 (Int.mul_nonneg hk0 h)
      have h6 : k * (k * (b * b - 4 * a * c)) = k * b * (k * b) - 4 * (k * a) * (k * c) := by grind
      omega
  have hαp : 1 ≤ α := by
    have h5 := q2.a1
    rcases Int.lt_or_le 0 α with h | h
    · omega
    · have := Int.mul_nonpos_of_nonneg_of_nonpos hk0 h
      omega
  have hred : (-α < β ∧ β ≤ α) ∧ (α < γ ∨ (α = γ ∧ 0 ≤ β)) := by
    obtain ⟨⟨r1, r2⟩, r3⟩ := q3
    have r1 : k * (-α) < k * β := by rw [Int.mul_neg]; exact r1
    refine ⟨⟨Int.lt_of_mul_lt_mul_left r1 hk0, Int.le_of_mul_le_mul_left r2 hkp⟩, ?_⟩
    rcases r3 with r3 | ⟨r3, r4⟩
    · exact .inl (Int.lt_of_mul_lt_mul_left r3 hk0)
    · refine .inr ⟨kc hkne r3, ?_⟩
      rw [← Int.mul_zero k] at r4
      exact Int.le_of_mul_le_mul_left r4 hkp
  -- the reference
  have hspec : r_spec_reAutomorphs (k * a, k * b, k * c) = some (allU a b c (b * b - 4 * a * c)) := by
    have j1 := ab (abs_mul bb bb)
    have j2 := ab (abs_mul ba bc)
    have j3 : 4 * a * c = 4 * (a * c) := by rw [Int.mul_assoc]
    have hds := disc_val (a := a) (b := b) (c := c) (inN_iff.2 (by omega)) (inN_iff.2 (by omega)) (inN_iff.2 (by omega))
    simp only [r_spec_reAutomorphs, hcont, Option.bind_some, nz_ne hkne, sI_eq, Int.mul_tdiv_cancel_left _ hkne, disc_eq]
    rw [w64_in (n := a) (by omega), w64_in (n := b) (by omega), w64_in (n := c) (by omega), hds]
    simp only [Option.bind_some]
    rw [L12_all ba bb bc (by omega)]
    rfl
  have hinv := inverse_val1 s1 s2 s3 s4 q4.dt
  have hdt := q4.dt
  obtain ⟨v1, v2, v3⟩ := q4.back
  have hI : ∀ {t : Int} (x : Int), x.natAbs ≤ 1 → t = 2 * x → ∃ Z, r_impl_Matrix_times (m1, m2, m3, m4) (x, 0, 0, x) = some Z ∧ r_impl_Matrix_times Z (m4, -m2, -m3, m1) = some (matU a b c t 0) ∧ r_impl_IsMatrix (matU a b c t 0) = some true := by
    intro t x hx ht
    subst ht
    exact conjT s1 s2 s3 s4 hx (by decide) (by decide) hx ba bb bc (by omega) (by decide) (by grind) (by grind) (by grind) (by grind)
  have hmod := sq_mod4 b
  rw [hspec]
  rcases (show b * b - 4 * a * c ≤ -5 ∨ b * b - 4 * a * c = -4 ∨ b * b - 4 * a * c = -3 by
    have j3 : 4 * a * c = 4 * (a * c) := by rw [Int.mul_assoc]
    omega) with hd | hd | hd
  · have hone : k * α ∣ k → α = 1 := fun ⟨z, hz⟩ => by
      have h5 : k * 1 = k * (α * z) := by rw [Int.mul_one, ← Int.mul_assoc]; exact hz
      have h6 := kc hkne h5
      have h7 : α ∣ 1 := ⟨z, h6⟩
      have := Int.le_of_dvd (by decide) h7
      omega
    have t1 : ¬ (k * α = k * γ ∧ k * β = 0) := fun ⟨e1, e2⟩ => by
      have e1 := kc hkne e1
      have e3 : β = 0 := kc hkne (by rw [e2, Int.mul_zero])
      have h5 : k * α ∣ g := (q2.con _).1 ⟨Int.dvd_refl _, by rw [e2]; exact Int.dvd_zero _, by rw [e1]; exact Int.dvd_refl _⟩
      have h6 := hone (hgk _ h5)
      subst h6 e3
      rw [← e1] at hdd
      omega
    have t2 : ¬ (k * α = k * γ ∧ k * β = k * α) := fun ⟨e1, e2⟩ => by
      have e1 := kc hkne e1
      have e3 := kc hkne e2
      have h5 : k * α ∣ g := (q2.con _).1 ⟨Int.dvd_refl _, by rw [e2]; exact Int.dvd_refl _, by rw [e1]; exact Int.dvd_refl _⟩
      have h6 := hone (hgk _ h5)
      subst h6 e3
      rw [← e1] at hdd
      omega
    obtain ⟨f1, f2, f3⟩ := auto_fin hdef k1 (turns_far t1 t2) hinv (As := [matU a b c 2 0, matU a b c (-2) 0]) (by simp) rfl (fun j hj hj2 => by
      match j, hj with
      | 0, _ => exact hI 1 (by decide) rfl
      | 1, _ => exact hI (-1) (by decide) rfl)
    refine ⟨_, rfl, ?_, ?_, ?_⟩
    all_goals
      rw [all_far hd, insR_comm]
    · exact f1
    · exact f2
    · exact f3
  · have hα := red_one hαp hred (hdd.trans hd) (by omega)
    subst hα
    have hβ : β = 0 ∧ γ = 1 := by
      rw [hd] at hdd
      have : β = 0 ∨ β = 1 := by omega
      rcases this with rfl | rfl <;> omega
    obtain ⟨rfl, rfl⟩ := hβ
    have w1 : a = m4 * m4 + m3 * m3 := kc hkne (by grind)
    have w2 : b = -2 * (m2 * m4 + m1 * m3) := kc hkne (by grind)
    have w3 : c = m2 * m2 + m1 * m1 := kc hkne (by grind)
    have hW : ∀ {t u : Int} (x : Int), x.natAbs ≤ 1 → t = 0 → u = x → ∃ Z, r_impl_Matrix_times (m1, m2, m3, m4) (0, -x, x, 0) = some Z ∧ r_impl_Matrix_times Z (m4, -m2, -m3, m1) = some (matU a b c t u) ∧ r_impl_IsMatrix (matU a b c t u) = some true := by
      intro t u x hx ht hu
      subst ht hu
      exact conjT s1 s2 s3 s4 (by decide) (by rw [Int.natAbs_neg]; exact hx) hx (by decide) ba bb bc (by decide) hx (by rw [w2]; grind) (by rw [w3]; grind) (by rw [w1]; grind) (by rw [w2]; grind)
    have ht4 : r_impl_Form_turns (k * 1, k * 0, k * 1) = some [(1, 0, 0, 1), (0, -1, 1, 0), (-1, 0, 0, -1), (0, 1, -1, 0)] := by rw [Int.mul_zero]; exact turns_4 _
    obtain ⟨f1, f2, f3⟩ := auto_fin hdef k1 ht4 hinv (As := [matU a b c 2 0, matU a b c 0 1, matU a b c (-2) 0, matU a b c 0 (-1)]) (by simp) rfl (fun j hj hj2 => by
      match j, hj with
      | 0, _ => exact hI 1 (by decide) rfl
      | 1, _ => exact hW 1 (by decide) rfl rfl
      | 2, _ => exact hI (-1) (by decide) rfl
      | 3, _ => exact hW (-1) (by decide) rfl rfl)
    refine ⟨_, rfl, ?_, ?_, ?_⟩
    all_goals
      rw [hd, all_4, ← perm4]
    · exact f1
    · exact f2
    · exact f3
  · have hα := red_one hαp hred (hdd.trans hd) (by omega)
    subst hα
    have hβ : β = 1 ∧ γ = 1 := by
      rw [hd] at hdd
      have : β = 0 ∨ β = 1 := by omega
      rcases this with rfl | rfl <;> omega
    obtain ⟨rfl, rfl⟩ := hβ
    have w1 : a = m4 * m4 - m3 * m4 + m3 * m3 := kc hkne (by grind)
    have w2 : b = -2 * m2 * m4 + (m1 * m4 + m2 * m3) - 2 * m1 * m3 := kc hkne (by grind)
    have w3 : c = m2 * m2 - m1 * m2 + m1 * m1 := kc hkne (by grind)
    have hU : ∀ {t u : Int} (x : Int), x.natAbs ≤ 1 → t = x → u = x → ∃ Z, r_impl_Matrix_times (m1, m2, m3, m4) (0, -x, x, x) = some Z ∧ r_impl_Matrix_times Z (m4, -m2, -m3, m1) = some (matU a b c t u) ∧ r_impl_IsMatrix (matU a b c t u) = some true := by
      intro t u x hx ht hu
      subst ht hu
      exact conjT s1 s2 s3 s4 (by decide) (by rw [Int.natAbs_neg]; exact hx) hx hx ba bb bc (by omega) hx (by rw [w2]; grind) (by rw [w3]; grind) (by rw [w1]; grind) (by rw [w2]; grind)
    have hV : ∀ {t u : Int} (x : Int), x.natAbs ≤ 1 → t = x → u = -x → ∃ Z, r_impl_Matrix_times (m1, m2, m3, m4) (x, x, -x, 0) = some Z ∧ r_impl_Matrix_times Z (m4, -m2, -m3, m1) = some (matU a b c t u) ∧ r_impl_IsMatrix (matU a b c t u) = some true := by
      intro t u x hx ht hu
      subst ht hu
      exact conjT s1 s2 s3 s4 hx hx (by rw [Int.natAbs_neg]; exact hx) (by decide) ba bb bc (by omega) (by rw [Int.natAbs_neg]; exact hx) (by rw [w2]; grind) (by rw [w3]; grind) (by rw [w1]; grind) (by rw [w2]; grind)
    have hkk : k * 1 ≠ 0 := by rw [Int.mul_one]; exact hkne
    obtain ⟨f1, f2, f3⟩ := auto_fin hdef k1 (turns_3 hkk) hinv (As := [matU a b c 2 0, matU a b c 1 1, matU a b c 1 (-1), matU a b c (-2) 0, matU a b c (-1) (-1), matU a b c (-1) 1]) (by simp) rfl (fun j hj hj2 => by
      match j, hj with
      | 0, _ => exact hI 1 (by decide) rfl
      | 1, _ => exact hU 1 (by decide) rfl rfl
      | 2, _ => exact hV 1 (by decide) rfl rfl
      | 3, _ => exact hI (-1) (by decide) rfl
      | 4, _ => exact hU (-1) (by decide) rfl rfl
      | 5, _ => exact hV (-1) (by decide) rfl rfl)
    refine ⟨_, rfl, ?_, ?_, ?_⟩
    all_goals
      rw [hd, all_3, ← perm6]
    · exact f1
    · exact f2
    · exact f3
end Go.Proofs.YtnifkkihamgmaaaDoor
