/-
  Fundamental parts are fundamental and the product of their prime discriminants, characters agree with theirs, and kinds of primes are numbers of roots.
  Conditions: none.
-/
import Derived.Test.YtgeajejmikaniaaFpFpC
import Derived.Test.YtgeajejmikaniaaFpDrw
namespace Go.Proofs.Ytgeajejmikaniaa
set_option linter.unusedVariables false
set_option linter.unusedSimpArgs false

/-! ### The table of roots -/
def kkV (r p : Nat) : Int := bif Nat.beq p 2 then t2 (r : Int) else vl (jN 100 (r % p) p false)
def rtOk (r p : Nat) : Bool := eqI (rQQ r p (2 * p) 0 : Int) (1 + kkV r p) && !(Nat.beq (jN 100 (r % p) p false) 3 && !(Nat.beq p 2))
def rtAll (p : Nat) : Nat → Bool
  | 0 => true
  | r + 1 => bif (bif Nat.ble (r % 4) 1 then rtOk r p else true) then rtAll p r else false
def pT : List Nat := [2, 3, 5, 7, 11, 13, 17, 19, 23, 97]
theorem rt_tab : (pT.all fun p => rtAll p (4 * p)) = true := by decide +kernel
theorem rtAll_at (p : Nat) : ∀ (n : Nat), rtAll p n = true → ∀ r, r < n → r % 4 ≤ 1 → rtOk r p = true
  | 0, _, r, h, _ => by omega
  | n + 1, h, r, hr, h4 => by
    unfold rtAll at h
    cases hc : (bif Nat.ble (n % 4) 1 then rtOk n p else true) with
    | false => rw [hc] at h; cases h
    | true =>
      rw [hc, cond_true] at h
      by_cases e : r = n
      · subst e
        have : Nat.ble (r % 4) 1 = true := Nat.ble_eq_true_of_le h4
        rw [this, cond_true] at hc
        exact hc
      · exact rtAll_at p n h r (by omega) h4
theorem kk_val {d : Int} {p : Nat} (hp : p ∈ pT) (h : jN 100 ((d % (4 * (p : Int))).toNat % p) p false ≠ 3 ∨ p = 2) : KK d p = kkV (d % (4 * (p : Int))).toNat p := by
  unfold kkV
  rw [nbeq]
  by_cases h2 : p = 2
  · subst h2
    rw [decide_eq_true rfl, cond_true, KK_even d (by decide), KK_odd d (by decide)]
    have e1 : JI d (2 / 2) = 1 := by
      show JI d 1 = 1
      unfold JI
      exact JJ_at1 _
    rw [e1, Int.mul_one]
    have e2 : (((d % (4 * ((2 : Nat) : Int))).toNat : Nat) : Int) = d % 8 := by
      have : (4 * ((2 : Nat) : Int)) = 8 := rfl
      rw [this]
      omega
    rw [e2]
    unfold t2
    have a1 : d % 8 % 2 = d % 2 := by omega
    have a2 : d % 8 % 8 = d % 8 := by omega
    rw [a1, a2]
  · have ho : p % 2 = 1 := by
      simp only [pT, List.mem_cons, List.not_mem_nil, or_false] at hp
      omega
    have hp3 : 3 ≤ p := by
      simp only [pT, List.mem_cons, List.not_mem_nil, or_false] at hp
      omega
    rw [decide_eq_false h2, cond_false, jN_JJ 100 _ p false (h.resolve_right h2) ho]
    have e4 : sg false = 1 := rfl
    rw [e4, Int.one_mul, KK_odd d ho]
    unfold JI
    congr 1
    have h0 : (4 * (p : Int)) ≠ 0 := by omega
    have n1 := Int.emod_nonneg d h0
    have e5 : (((d % (4 * (p : Int))).toNat % p : Nat) : Int) = d % (p : Int) := by
      push_cast
      rw [Int.toNat_of_nonneg n1]
      exact Int.emod_emod_of_dvd d ⟨4, by rw [Int.mul_comm]⟩
    omega
theorem roots_cnt {d : Int} {p : Nat} (hp : p ∈ pT) (h4 : d % 4 = 0 ∨ d % 4 = 1) : (rtC d p (2 * p) : Int) = 1 + KK d p := by
  have hp2 : 2 ≤ p := by
    simp only [pT, List.mem_cons, List.not_mem_nil, or_false] at hp
    omega
  have h0 : (4 * (p : Int)) ≠ 0 := by omega
  have n1 := Int.emod_nonneg d h0
  have n2 := Int.emod_lt_of_pos d (show (0 : Int) < 4 * (p : Int) by omega)
  have n3 : d % (4 * (p : Int)) % 4 = d % 4 := Int.emod_emod_of_dvd d ⟨p, rfl⟩
  have hall := List.all_eq_true.1 rt_tab p hp
  have hr := rtAll_at p (4 * p) hall (d % (4 * (p : Int))).toNat (by omega) (by omega)
  unfold rtOk at hr
  rw [Bool.and_eq_true, eqI_eq, beq_iff_eq] at hr
  obtain ⟨r1, r2⟩ := hr
  rw [rtC_eq (by omega), kk_val hp]
  · exact r1
  · rw [nbeq, nbeq] at r2
    by_cases h2 : p = 2
    · exact .inr h2
    · left
      intro h3
      rw [decide_eq_true h3, decide_eq_false h2] at r2
      cases r2
/-! ### Draws -/
theorem anyDisc_ok {k : Nat} {c : List Int × Int × Int} (h : CurB k c) (hk : k ≤ 10000000000) : ∃ v c', r_spec_l1Cur_anyDisc c = some (v, c') ∧ CurB (k + 12) c' := by
  obtain ⟨y, c1, e1, _, _, _, h1⟩ := pick_ok 8 h (by omega)
  simp only [r_spec_l1Cur_anyDisc, e1, Option.bind_some]
  cases eqI y 0 with
  | true =>
    obtain ⟨x, c2, e2, h2⟩ := number_ok h1 (by omega)
    simp only [cond_true, e2, Option.bind_some]
    exact ⟨_, _, rfl, h2.up (by omega)⟩
  | false =>
    rw [cond_false]
    have hj : ∃ j, (bif eqI y 1 then some (eqI y 1) else some (eqI y 2) : Option Bool) = some j := by cases eqI y 1 <;> exact ⟨_, rfl⟩
    obtain ⟨j, hj⟩ := hj
    rw [hj]
    simp only [Option.bind_some]
    cases j with
    | true =>
      obtain ⟨x, c2, e2, _, h2⟩ := among_ok (l := [5, 8, 12, 13, 17, 21, 60, 136, 1000, 997, 4, 9, 1, 0]) (by simp) h1 (by omega)
      simp only [cond_true, e2, Option.bind_some]
      exact ⟨_, _, rfl, h2.up (by omega)⟩
    | false =>
      obtain ⟨x, c2, e2, h2⟩ := disc_ok h1 (by omega)
      simp only [cond_false, e2, Option.bind_some]
      exact ⟨_, _, rfl, h2.up (by omega)⟩
theorem fp_draw {code : List Int} (hc : code.length ≤ 1048576) (h8 : ∀ x ∈ code, 0 ≤ x ∧ x ≤ 255) : ∃ d, r_spec_DrawFundamentalPart code = some d := by
  obtain ⟨b, c1, e1, h1⟩ := one_ok 3 (CurB.start hc h8) (by omega)
  simp only [r_spec_DrawFundamentalPart, r_spec_DrawIsDiscriminant, e1, Option.bind_some]
  cases b with
  | true =>
    obtain ⟨x, c2, e2, h2⟩ := number_ok h1 (by omega)
    simp only [cond_true, e2, Option.bind_some]
    exact ⟨_, rfl⟩
  | false =>
    obtain ⟨b2, c2, e2, h2⟩ := one_ok 2 h1 (by omega)
    simp only [cond_false, r_spec_l1Cur_bigDisc, e2, Option.bind_some]
    cases b2 with
    | true =>
      obtain ⟨x, c3, e3, h3⟩ := anyDisc_ok h2 (by omega)
      simp only [cond_true, e3, Option.bind_some]
      exact ⟨_, rfl⟩
    | false =>
      obtain ⟨x, c3, e3, _, _, _, h3⟩ := pick_ok 60 h2 (by omega)
      obtain ⟨y, c4, e4, _, h4⟩ := among_ok (l := [-3, -4, -7, -8, -15, -20, -23, -84, 5, 8, 12, 13, 60, -1, 2, 1]) (by simp) h3 (by omega)
      simp only [cond_false, e3, e4, Option.bind_some, sI_eq]
      exact ⟨_, rfl⟩
/-! ### The greatest common divisor of the law -/
theorem qg_run : ∀ (k n : Nat) (a b : Int), 0 ≤ a → 0 ≤ b → b.natAbs < 2 ^ k → 2 * k + 1 ≤ n → ∃ r, r_laws_qGcd_L5 n a b = some r ∧ r.natAbs = Int.gcd a b ∧ 0 ≤ r
  | k, 0, a, b, _, _, _, hn => by omega
  | 0, n + 1, a, b, ha, hb0, hb, hn => by
    have : b = 0 := by simp at hb; omega
    subst this
    unfold r_laws_qGcd_L5
    rw [eqI_true]
    exact ⟨a, rfl, by simp, ha⟩
  | k + 1, n + 1, a, b, ha, hb0, hb, hn => by
    unfold r_laws_qGcd_L5
    by_cases h0 : b = 0
    · subst h0
      rw [eqI_true]
      exact ⟨a, rfl, by simp, ha⟩
    · rw [eqI_false h0, nz_ne h0]
      simp only [Bool.not_false, cond_true, Option.bind_some, sI_eq]
      rw [← igcd_step a b]
      match n, hn with
      | n + 1, hn =>
        unfold r_laws_qGcd_L5
        by_cases h1 : a.tmod b = 0
        · rw [h1, eqI_true]
          exact ⟨b, rfl, by simp, hb0⟩
        · rw [eqI_false h1, nz_ne h1]
          simp only [Bool.not_false, cond_true, Option.bind_some, sI_eq]
          rw [← igcd_step b (a.tmod b)]
          refine qg_run k n _ _ (Int.tmod_nonneg _ ha) (Int.tmod_nonneg _ hb0) ?_ (by omega)
          rw [Int.natAbs_tmod]
          have h2 : (a.tmod b).natAbs < b.natAbs := by rw [Int.natAbs_tmod]; exact Nat.mod_lt _ (by omega)
          exact gcd_two k (by omega) h2 hb
theorem qg_val {a b : Int} (ha : 0 ≤ a) (hb : 0 ≤ b) (hb2 : b ≤ 1000000000) : r_laws_qGcd a b = some (Int.gcd a b : Int) := by
  have hF := FUge
  obtain ⟨r, h1, h2, h3⟩ := qg_run 64 FU a b ha hb (by omega) (by omega)
  simp only [r_laws_qGcd, h1, Option.bind_some, r_laws_qAbs, ltI_eq, decide_eq_false (show ¬ r < 0 by omega), cond_false]
  congr 1
  omega
theorem num1 (d : Int) (h : d.natAbs ≤ 1000000) : r_impl_areNumbers [d] = some true := by
  rw [num_val [d] (by simp)]
  have : inN d = true := inN_iff.2 (by omega)
  simp [this]
theorem prime_tab : (pT.all fun p => match r_impl_IsPrime (p : Int) with
  | some b => b
  | none => false) = true := by decide +kernel
theorem prime_p {p : Nat} (hp : p ∈ pT) : r_impl_IsPrime (p : Int) = some true := by
  have h := List.all_eq_true.1 prime_tab p hp
  cases h2 : r_impl_IsPrime (p : Int) with
  | none => rw [h2] at h; cases h
  | some b => rw [h2] at h; cases b with
    | true => rfl
    | false => cases h
theorem raw_FnFundamentalParts (code more : List Int) (hc8 : ∀ x ∈ code, 0 ≤ x ∧ x ≤ 255) (hm8 : ∀ x ∈ more, 0 ≤ x ∧ x ≤ 255) : r_laws_FnFundamentalParts code more = some true := by
  rcases big_cases code more with hb | ⟨hb, hc, hm⟩
  · simp only [r_laws_FnFundamentalParts, hb, Option.bind_some, cond_true]
  have hF := FUge
  have e0 : (((0 : Nat) : Int)) = 0 := rfl
  obtain ⟨d, ed⟩ := fp_draw hc hc8
  obtain ⟨v, ev, v0, v1⟩ := numberOf_ok hm hm8
  obtain ⟨b, i1, i2, i3⟩ := isd_val d
  simp only [r_laws_FnFundamentalParts, hb, ed, Option.bind_some, cond_false, r_impl_FundamentalPart, r_spec_FundamentalPart, i1, i2]
  cases b with
  | false => rfl
  | true =>
    obtain ⟨j1, j2, j3⟩ := i3 rfl
    have hdb := inN_iff.1 j1
    have k0 := j3 0
    have k1 := j3 1
    obtain ⟨e, k, F⟩ := fund_val j2 (by omega) (show d.natAbs ≤ 1000000 by omega)
    have hem := F.m
    have hk1 := F.k1
    have he0 : e ≠ 0 := fun h => by rw [h, Int.zero_mul] at hem; omega
    have hkk1 : 1 ≤ k * k := by
      have : 1 * 1 ≤ k * k := Int.mul_le_mul hk1 hk1 (by omega) (by omega)
      omega
    have hnat : d.natAbs = e.natAbs * (k * k).natAbs := by rw [← hem]; exact Int.natAbs_mul _ _
    have heb : e.natAbs ≤ 1000000 := by
      have h7 : e.natAbs * 1 ≤ e.natAbs * (k * k).natAbs := Nat.mul_le_mul_left _ (by omega)
      omega
    have hkb : k ≤ 1000000 := by
      have h7 : 1 * (k * k).natAbs ≤ e.natAbs * (k * k).natAbs := Nat.mul_le_mul_right _ (by omega)
      have h8 : k * 1 ≤ k * k := Int.mul_le_mul_of_nonneg_left hk1 (by omega)
      omega
    have hekb : (e * k).natAbs ≤ 1000000 := by
      have h5 : (e * k * k).natAbs = (e * k).natAbs * k.natAbs := Int.natAbs_mul _ _
      have h6 : e * k * k = d := by rw [← hem]; grind
      have h7 : (e * k).natAbs * 1 ≤ (e * k).natAbs * k.natAbs := Nat.mul_le_mul_left _ (by omega)
      rw [h6] at h5
      omega
    -- the fundamental part is a discriminant
    obtain ⟨b2, n1, n2, n3⟩ := isd_val e
    have hesq : ∀ x : Int, x * x ≠ e := by
      intro x hx
      exact j3 (x * k) (by rw [← hem, ← hx]; grind)
    have hb2 : b2 = true := by
      have hn : r_impl_areNumbers [e] = some true := num1 e heb
      obtain ⟨bs, s1, s2, s3⟩ := sq_both (d := e) (by omega)
      have hbs : bs = false := by
        cases bs with
        | false => rfl
        | true =>
          exfalso
          have h0e : 0 ≤ e := by
            rcases Int.lt_or_le e 0 with g | g
            · simp only [r_impl_isSquare, leI_eq, decide_eq_false (show ¬ 0 ≤ e by omega), cond_false, Option.bind_some] at s1
              cases s1
            · exact g
          obtain ⟨r, q1, q2, q3, q4, q5⟩ := root_val h0e (by omega)
          have m1 := abs_mul (x := r) (y := r) (A := 1000000000) (B := 1000000000) (by omega) (by omega)
          simp only [r_impl_isSquare, leI_eq, decide_eq_true h0e, cond_true, q1, Option.bind_some] at s1
          rw [w64_abs (n := r * r) (by omega)] at s1
          have s1 := some_inj s1
          rw [eqI_eq, beq_iff_eq] at s1
          exact hesq r s1
      have hl : leI (e % 4) 1 = true := by rw [leI_eq]; exact decide_eq_true (by have := F.e4; omega)
      simp only [r_impl_isDiscriminant, hn, mod4, Option.bind_some, cond_true, hl, s1, hbs, Bool.not_false] at n1
      exact (some_inj n1).symm
    subst hb2
    obtain ⟨L, p1, p2, p3⟩ := pd_val he0 heb
    have isF : r_impl_IsFundamental e = some (true, true) := by
      simp only [r_impl_IsFundamental, n1, F.f, Option.bind_some, Bool.not_true, cond_false, eqSelf]
    have hPD : r_impl_PrimeDiscriminants e = some (L, true) := by
      simp only [r_impl_PrimeDiscriminants, isF, p1, Option.bind_some, Bool.not_true, cond_false]
    have hmod2 : r_impl_mod d 2 = some (d % 2) := mod_emod (by omega) (by omega)
    have hr2 : (d % 2) * (d % 2) = d % 2 := by
      rcases Int.emod_two_eq d with h | h <;> rw [h] <;> rfl
    have hq : Int.tdiv (d % 2 - d) 4 * 4 = d % 2 - d := by
      have hdv : (4 : Int) ∣ d % 2 - d := by omega
      obtain ⟨c, hcc⟩ := hdv
      rw [hcc, Int.mul_tdiv_cancel_left _ (by omega), Int.mul_comm]
    generalize hcq : Int.tdiv (d % 2 - d) 4 = cq at hq
    have hPF : r_impl_PrincipalForm d = some ((1, d % 2, cq), true) := by
      simp only [r_impl_PrincipalForm, i1, r_impl_principalForm, hmod2, Option.bind_some, Bool.not_true, cond_false, sI_eq]
      rw [w64_in (n := d % 2 - d) (by omega), hcq, w64_in (by omega)]
    have hIF : r_impl_IsForm (1, d % 2, cq) = some true := by
      rw [form_val]
      have a1 : inN 1 = true := by decide
      have a2 : inN (d % 2) = true := inN_iff.2 (by omega)
      have a3 : inN cq = true := inN_iff.2 (by omega)
      show some (inN 1 && (inN (d % 2) && inN cq)) = some true
      rw [a1, a2, a3]
      rfl
    have hFD : r_impl_Form_disc (1, d % 2, cq) = some d := by
      have a1 : inN 1 = true := by decide
      have a2 : inN (d % 2) = true := inN_iff.2 (by omega)
      have a3 : inN cq = true := inN_iff.2 (by omega)
      rw [disc_val a1 a2 a3, hr2]
      congr 1
      omega
    have hDi : r_impl_Discriminant (1, d % 2, cq) = some (d, true) := by
      simp only [r_impl_Discriminant, hIF, hFD, Option.bind_some, Bool.not_true, cond_false]
    have hekk : w64 (w64 (e * k) * k) = d := by
      rw [w64_abs (n := e * k) (by omega), show e * k * k = d by rw [← hem]; grind, w64_in (by omega)]
    have hprod := prod_run more L ((1, d % 2, cq), true) d (e, k, true) he0 heb p2 p3 L.length FU 0 (by omega) (by omega)
    rw [e0] at hprod
    have ht0 : prd (L.take 0) = 1 := rfl
    rw [ht0] at hprod
    -- characters
    have w0 := (tmod_range v0 (show (0 : Int) < 1000 by omega)).1
    have w1 := (tmod_range v0 (show (0 : Int) < 1000 by omega)).2
    obtain ⟨n, hn⟩ := Int.eq_ofNat_of_zero_le w0
    have hn999 : n < 1000 := by omega
    have hd2 : 2 ≤ d.natAbs := by omega
    have he4 := F.e4
    have x0 := hesq 0
    have x1 := hesq 1
    have he2 : 2 ≤ e.natAbs := by omega
    have hCd : r_impl_CharacterOf d (n : Int) = some (KK d n, true) := by
      simp only [r_impl_CharacterOf, i1, num1 (n : Int) (by omega), ikN hd2 (show d.natAbs ≤ 1000000 by omega) (show n ≤ 1000000 by omega), Option.bind_some, Bool.not_true, cond_false]
    have hCe : r_impl_CharacterOf e (n : Int) = some (KK e n, true) := by
      simp only [r_impl_CharacterOf, n1, num1 (n : Int) (by omega), ikN he2 heb (show n ≤ 1000000 by omega), Option.bind_some, Bool.not_true, cond_false]
    have hg := qg_val (a := (n : Int)) (b := k) (by omega) (by omega) (by omega)
    have hj : ((r_laws_qGcd (n : Int) k).bind fun y37 => (bif (!eqI y37 1) then some 0 else some (KK e n) : Option Int)) = some (KK d n) := by
      rw [hg]
      simp only [Option.bind_some]
      have hgn : Int.gcd (n : Int) k = Nat.gcd n k.natAbs := by unfold Int.gcd; rw [Int.natAbs_natCast]
      rw [hgn]
      by_cases hn0 : n = 0
      · subst hn0
        rw [KK_zero, KK_zero]
        cases (!eqI ((Nat.gcd 0 k.natAbs : Nat) : Int) 1) <;> rfl
      · rw [← hem, KK_fund (by omega)]
        by_cases hc : Nat.gcd n k.natAbs = 1
        · rw [if_pos hc, hc]
          rfl
        · rw [if_neg hc, eqNe (show ((Nat.gcd n k.natAbs : Nat) : Int) ≠ 1 by omega)]
          rfl
    -- kinds
    have q0 := (tmod_range v0 (show (0 : Int) < 10 by omega)).1
    have q1 := (tmod_range v0 (show (0 : Int) < 10 by omega)).2
    obtain ⟨p, hp1, hp2⟩ : ∃ p : Nat, getI ([2, 3, 5, 7, 11, 13, 17, 19, 23, 97] : List Int) (Int.tmod v 10) = some (p : Int) ∧ p ∈ pT := by
      obtain ⟨y, y1, y2⟩ := getI_in (l := ([2, 3, 5, 7, 11, 13, 17, 19, 23, 97] : List Int)) q0 (by simpa using q1)
      refine ⟨y.toNat, ?_, ?_⟩
      · rw [y1]
        simp only [List.mem_cons, List.not_mem_nil, or_false] at y2
        congr 1
        omega
      · simp only [List.mem_cons, List.not_mem_nil, or_false] at y2
        simp only [pT, List.mem_cons, List.not_mem_nil, or_false]
        omega
    have hp100 : 2 ≤ p ∧ p ≤ 100 := by
      simp only [pT, List.mem_cons, List.not_mem_nil, or_false] at hp2
      omega
    obtain ⟨R, r1, r2⟩ := rts_len (d := d) (N := p) (by omega) (by omega) (by omega) (2 * p) FU 0 [] (by omega) (by omega) rfl
    rw [e0] at r1
    have hcnt := roots_cnt hp2 j2
    have hRoots : r_impl_RootsOfDiscriminant d (p : Int) = some (R, true) := by
      have g1 : ltI (p : Int) 1 = false := by rw [ltI_eq]; exact decide_eq_false (by omega)
      have g2 : ltI 2500 (p : Int) = false := by rw [ltI_eq]; exact decide_eq_false (by omega)
      simp only [r_impl_RootsOfDiscriminant, num1 d (by omega), g1, g2, r_impl_rootsOfDiscriminant, r1, Option.bind_some, Bool.not_true, cond_false]
    have hkr : r_impl_kronecker d (p : Int) = some (KK d p) := ikN hd2 (by omega) (by omega)
    have hlast : ((r_impl_KindOfPrime d (p : Int)).bind fun y49 => (some (R, true) : Option (List Int × Bool)).bind fun y50 =>
        (bif (bif (!y49.2) then true else (!y50.2)) then some false else (bif (eqI y49.1 2) then some (eqI ((y50.1.length : Int)) 2) else (bif (eqI y49.1 1) then some (eqI ((y50.1.length : Int)) 0) else some (eqI ((y50.1.length : Int)) 1))) : Option Bool)) = some true := by
      have hKd : (Int.tmod k (p : Int) = 0) → KK d p = 0 := by
        intro h
        have hdv : (p : Int) ∣ k := by
          have := Int.tmod_add_mul_tdiv k (p : Int)
          exact ⟨k.tdiv (p : Int), by omega⟩
        rcases Classical.em (KK d p = 0) with g | g
        · exact g
        · exfalso
          have hgc := (KK_ne d p (by omega)).1 g
          have h1 : p ∣ d.natAbs := by
            have : (p : Int) ∣ d := by rw [← hem]; exact Int.dvd_trans hdv ⟨e * k, by grind⟩
            have h2 := Int.natAbs_dvd_natAbs.2 this
            rwa [Int.natAbs_natCast] at h2
          have h2 : p ∣ Nat.gcd p d.natAbs := Nat.dvd_gcd (Nat.dvd_refl p) h1
          rw [hgc] at h2
          have := Nat.le_of_dvd (by omega) h2
          omega
      simp only [r_impl_KindOfPrime, i1, prime_p hp2, r_impl_kindOfPrime, F.i, nzOk (show (p : Int) ≠ 0 by omega), hkr, Option.bind_some, Bool.not_true, cond_false]
      cases hz : eqI (Int.tmod k (p : Int)) 0 with
      | true =>
        rw [eqI_eq, beq_iff_eq] at hz
        have := hKd hz
        simp only [cond_true, Option.bind_some, Bool.not_true, cond_false]
        have hl1 : (R.length : Int) = 1 := by omega
        rw [hl1]
        rfl
      | false =>
        rcases KK_unit d p with g | g | g
        · have hl1 : (R.length : Int) = 1 := by omega
          rw [g, hl1]
          rfl
        · have hl1 : (R.length : Int) = 2 := by omega
          rw [g, hl1]
          rfl
        · have hl1 : (R.length : Int) = 0 := by omega
          rw [g, hl1]
          rfl
    simp only [F.i, F.s, Option.bind_some, bne_self_eq_false, cond_false, Bool.not_true, eqSelf, isF, hPD, hPF, hekk, hprod, hDi, ev, sI_eq, hn, hCd, hCe, hj, hp1, hRoots]
    exact hlast
end Go.Proofs.Ytgeajejmikaniaa
