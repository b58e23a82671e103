/-
  Descending: the reference and the program give the same form and the same matrix.
  Conditions: none.
-/
import Derived.Test.YtdffhgibkeifmaaDscRed
import Derived.Test.YtdffhgibkeifmaaDscTail
namespace Go.Proofs.Ytdffhgibkeifmaa
set_option linter.unusedVariables false
set_option linter.unusedSimpArgs false

theorem dL11 (p : Int) (y3 y3' y5 : Fm × Mx) (y6 : Mx) : ∀ (n : Nat) (a b c d : Int), r_impl_descend_L11 p y3 y5 y6 n a b c d = r_impl_descend_L11 p y3' y5 y6 n a b c d
  | 0, a, b, c, d => rfl
  | n + 1, a, b, c, d => by
    unfold r_impl_descend_L11
    simp only [sI_eq, dL11 p y3 y3' y5 y6 n]
/-- The product at the end. -/
def dEnd (m : Mx) (p : Int) (q : Mx × Int × Fm × Mx) : Option (Fm × Mx) :=
  (r_impl_Matrix_times m q.1).bind fun y23 => (r_impl_Matrix_times y23 (1, q.2.1, 0, 1)).bind fun y24 => (r_impl_Matrix_inverse q.2.2.2).bind fun y25 =>
  (r_impl_Matrix_times y25 (1, 0, 0, p)).bind fun y26 => (r_impl_Matrix_inverse y24).bind fun y27 => (r_impl_Matrix_times y26 y27).bind fun y28 => some (q.2.2.1, y28)
theorem inverse_some (m : Mx) : ∃ y, r_impl_Matrix_inverse m = some y := by
  simp only [r_impl_Matrix_inverse, r_impl_Matrix_det, sI_eq, Option.bind_some]
  exact ⟨_, rfl⟩
theorem dEnd_some (m : Mx) (p : Int) (q : Mx × Int × Fm × Mx) : ∃ y, dEnd m p q = some (q.2.2.1, y) := by
  unfold dEnd
  obtain ⟨a, h1⟩ := times_some m q.1
  rw [h1, Option.bind_some]
  obtain ⟨b, h2⟩ := times_some a (1, q.2.1, 0, 1)
  rw [h2, Option.bind_some]
  obtain ⟨c, h3⟩ := inverse_some q.2.2.2
  rw [h3, Option.bind_some]
  obtain ⟨d, h4⟩ := times_some c (1, 0, 0, p)
  rw [h4, Option.bind_some]
  obtain ⟨e, h5⟩ := inverse_some b
  rw [h5, Option.bind_some]
  obtain ⟨f, h6⟩ := times_some d e
  rw [h6, Option.bind_some]
  exact ⟨_, rfl⟩
theorem descend_tail {f r : Fm} {m : Mx} {p : Int} (h : r_impl_reduce f = some (r, m)) : r_impl_descend f p = (dTail r p).bind (dEnd m p) := by
  simp only [r_impl_descend, dTail, h, Option.bind_some, Option.bind_assoc, r_impl_one, dEnd]
  refine congrArg (Option.bind _) (funext fun y4 => ?_)
  refine congrArg (Option.bind _) (funext fun y5 => ?_)
  rw [dL11 p (r, m) (r, (1, 0, 0, 1)) y5 (1, 0, 0, 1) FU 0 y5.1.1 y5.1.2.1 y5.1.2.2]
theorem skel_run (p : Int) (y5 : Fm × Mx) (y6 : Mx) : ∀ (n : Nat) (t : Int) (q : Int × Fm × Mx), sSkel p y5.1 n t = some q → r_spec_odDescend_L8 p y5 y6 n t = ((r_spec_coShift q.1).bind fun y22 => (r_spec_foMul y6 y22).bind fun y23 => (r_spec_foInverse q.2.2).bind fun y24 => (r_spec_foMul y24 ((1, 0, 0, p))).bind fun y25 => (r_spec_foInverse y23).bind fun y26 => (r_spec_foMul y25 y26).bind fun y27 => some (.inr (((q.2.1, y27)))))
  | 0, t, q, h => by cases h
  | n + 1, t, q, h => by
    unfold sSkel at h
    unfold r_spec_odDescend_L8
    cases h1 : ltI t p with
    | false => rw [h1] at h; cases h
    | true =>
      rw [h1, cond_true] at h
      rw [cond_true]
      obtain ⟨y11, e1, h⟩ := of_bind h
      obtain ⟨y12, e2, h⟩ := of_bind h
      obtain ⟨z, e3, h⟩ := of_bind h
      obtain ⟨b, e4, h⟩ := of_bind h
      simp only [e1, e2, e3, Option.bind_some]
      rw [e4, Option.bind_some]
      cases b with
      | true =>
        simp only [cond_true, sI_eq] at h ⊢
        exact skel_run p y5 y6 n _ q h
      | false =>
        rw [cond_false] at h ⊢
        obtain ⟨z2, e5, h⟩ := of_bind h
        obtain ⟨z3, e6, h⟩ := of_bind h
        obtain ⟨y21, e7, h⟩ := of_bind h
        have h := some_inj h
        subst h
        simp only [e1, e6, e7, Option.bind_some]
theorem sdescend_tail {f r : Fm} {m : Mx} {p : Int} {q : Mx × Int × Fm × Mx} (h : r_spec_reReduce f = some (r, m)) (ht : sTail r p = some q) : r_spec_odDescend f p = dEnd m p q := by
  unfold sTail at ht
  obtain ⟨y4, e1, ht⟩ := of_bind ht
  obtain ⟨y5, e2, ht⟩ := of_bind ht
  obtain ⟨k, e3, ht⟩ := of_bind ht
  have ht := some_inj ht
  subst ht
  simp only [r_spec_odDescend, h, e1, e2, Option.bind_some, dEnd, dsc_mul, dsc_inv]
  obtain ⟨y, hy⟩ := times_some m y5.2
  rw [hy, Option.bind_some, skel_run p y5 y FU 0 k e3]
  simp only [r_spec_coShift, Option.bind_some, dsc_mul, dsc_inv, Option.bind_assoc]
theorem eq3_eq {x y : Fm} (h : eq3 x y = true) : x = y := by
  obtain ⟨a, b, c⟩ := x
  obtain ⟨d, e, f⟩ := y
  simp only [eq3, eqI_eq] at h
  cases h1 : (a == d) <;> cases h2 : (b == e) <;> cases h3 : (c == f) <;> simp [h1, h2, h3] at h
  simp_all
theorem eq4_eq {x y : Mx} (h : eq4 x y = true) : x = y := by
  obtain ⟨a, x⟩ := x
  obtain ⟨d, y⟩ := y
  simp only [eq4, eqI_eq] at h
  cases h1 : (a == d) with
  | false => rw [h1] at h; cases h
  | true =>
    rw [h1, cond_true] at h
    rw [eq3_eq h, eq_of_beq h1]
theorem eqT_eq {x y : Option (Mx × Int × Fm × Mx)} (h : eqT x y = true) : ∃ q, x = some q ∧ y = some q := by
  cases x with
  | none => cases y <;> cases h
  | some x =>
    cases y with
    | none => cases h
    | some y =>
      obtain ⟨a, b, c, d⟩ := x
      obtain ⟨a2, b2, c2, d2⟩ := y
      unfold eqT at h
      simp only at h
      cases h1 : eq4 a a2 with
      | false => rw [h1] at h; cases h
      | true =>
        cases h2 : eqI b b2 with
        | false => rw [h1, h2] at h; cases h
        | true =>
          cases h3 : eq3 c c2 with
          | false => rw [h1, h2, h3] at h; cases h
          | true =>
            rw [h1, h2, h3] at h
            have h4 : d = d2 := eq4_eq h
            rw [eqI_eq] at h2
            rw [eq4_eq h1, eq_of_beq h2, eq3_eq h3, h4]
            exact ⟨_, rfl, rfl⟩
theorem dchP_at {a b c D : Int} : ∀ (ps : List Int), dchP a b c D ps = true → ∀ p, p ∈ ps → tryP a b c D p = true → eqT (dTail (a, b, c) p) (sTail (a, b, c) p) = true
  | [], _, p, hp, _ => by simp at hp
  | q :: ps, h, p, hp, ht => by
    unfold dchP at h
    cases h1 : (bif tryP a b c D q then eqT (dTail (a, b, c) q) (sTail (a, b, c) q) else true) with
    | false => rw [h1] at h; cases h
    | true =>
      rw [h1, cond_true] at h
      rcases List.mem_cons.1 hp with h2 | h2
      · subst h2
        rw [ht] at h1
        exact h1
      · exact dchP_at ps h p h2 ht
theorem dchC_at {a b : Int} : ∀ (n : Nat) (c0 : Int), dchC a b n c0 = true → ∀ c, c0 ≤ c → c < c0 + n → dchP a b c (b * b - 4 * a * c) dPs = true
  | 0, c0, _, c, h1, h2 => by simp at h2; omega
  | n + 1, c0, h, c, h1, h2 => by
    unfold dchC at h
    cases h3 : dchP a b c0 (b * b - 4 * a * c0) dPs with
    | false => rw [h3] at h; cases h
    | true =>
      rw [h3, cond_true, sI_eq] at h
      by_cases h4 : c = c0
      · subst h4; exact h3
      · exact dchC_at n (c0 + 1) h c (by omega) (by push_cast at h2; omega)
theorem dchB_at {a : Int} : ∀ (n : Nat) (b0 : Int), dchB a n b0 = true → ∀ b, b0 ≤ b → b < b0 + n → dchC a b (Int.toNat ((2000 + b * b) / (4 * a) - a + 1)) a = true
  | 0, b0, _, b, h1, h2 => by simp at h2; omega
  | n + 1, b0, h, b, h1, h2 => by
    unfold dchB at h
    cases h3 : dchC a b0 (Int.toNat ((2000 + b0 * b0) / (4 * a) - a + 1)) a with
    | false => rw [h3] at h; cases h
    | true =>
      rw [h3, cond_true, sI_eq] at h
      by_cases h4 : b = b0
      · subst h4; exact h3
      · exact dchB_at n (b0 + 1) h b (by omega) (by push_cast at h2; omega)
theorem dTl_all {a : Int} (h1 : 1 ≤ a) (h2 : a ≤ 25) : dchB a (2 * a).toNat (1 - a) = true := by
  have h : a = 1 ∨ a = 2 ∨ a = 3 ∨ a = 4 ∨ a = 5 ∨ a = 6 ∨ a = 7 ∨ a = 8 ∨ a = 9 ∨ a = 10 ∨ a = 11 ∨ a = 12 ∨ a = 13 ∨ a = 14 ∨ a = 15 ∨ a = 16 ∨ a = 17 ∨ a = 18 ∨ a = 19 ∨ a = 20 ∨ a = 21 ∨ a = 22 ∨ a = 23 ∨ a = 24 ∨ a = 25 := by omega
  rcases h with h | h | h | h | h | h | h | h | h | h | h | h | h | h | h | h | h | h | h | h | h | h | h | h | h <;> subst h
  · exact dTl_1
  · exact dTl_2
  · exact dTl_3
  · exact dTl_4
  · exact dTl_5
  · exact dTl_6
  · exact dTl_7
  · exact dTl_8
  · exact dTl_9
  · exact dTl_10
  · exact dTl_11
  · exact dTl_12
  · exact dTl_13
  · exact dTl_14
  · exact dTl_15
  · exact dTl_16
  · exact dTl_17
  · exact dTl_18
  · exact dTl_19
  · exact dTl_20
  · exact dTl_21
  · exact dTl_22
  · exact dTl_23
  · exact dTl_24
  · exact dTl_25
theorem mul_self_nonneg' (b : Int) : 0 ≤ b * b := by
  rcases Int.le_total 0 b with h | h
  · exact Int.mul_nonneg h h
  · exact Int.mul_nonneg_of_nonpos_of_nonpos h h
theorem mul_self_le' {a b : Int} (h1 : -a ≤ b) (h2 : b ≤ a) : b * b ≤ a * a := by
  have h3 : 0 ≤ (a - b) * (a + b) := Int.mul_nonneg (by omega) (by omega)
  have h4 : (a - b) * (a + b) = a * a - b * b := by grind
  omega
/-- The bounds of a reduced form. -/
theorem red_bounds {a b c d g : Int} (h : RedInv a b c d g) (hr : IsRed a b c) (hd : -2000 ≤ d) : a ≤ 25 ∧ a ≤ c ∧ c < a + ((Int.toNat ((2000 + b * b) / (4 * a) - a + 1) : Nat) : Int) := by
  obtain ⟨⟨n1, n2⟩, n3⟩ := hr
  have h1 := mul_self_le' (a := a) (b := b) (by omega) n2
  have hac : a ≤ c := by omega
  have h2 : a * a ≤ a * c := Int.mul_le_mul_of_nonneg_left hac (by have := h.a1; omega)
  have h3 := h.dis
  have e1 : 4 * a * c = 4 * (a * c) := by grind
  have h4 : a * a ≤ 666 := by omega
  refine ⟨?_, hac, ?_⟩
  · rcases Int.lt_or_le 25 a with h5 | h5
    · have : 26 * 26 ≤ a * a := Int.mul_le_mul (by omega) (by omega) (by omega) (by omega)
      omega
    · exact h5
  · have h5 : c ≤ (2000 + b * b) / (4 * a) := by
      rw [Int.le_ediv_iff_mul_le (by have := h.a1; omega)]
      have e2 : c * (4 * a) = 4 * a * c := by grind
      omega
    omega
theorem prime_25 {p : Int} (h1 : 2 ≤ p) (h2 : p ≤ 25) (h : r_impl_isPrime p = some true) : p ∈ dPs := by
  have h3 : p = 2 ∨ p = 3 ∨ p = 4 ∨ p = 5 ∨ p = 6 ∨ p = 7 ∨ p = 8 ∨ p = 9 ∨ p = 10 ∨ p = 11 ∨ p = 12 ∨ p = 13 ∨ p = 14 ∨ p = 15 ∨ p = 16 ∨ p = 17 ∨ p = 18 ∨ p = 19 ∨ p = 20 ∨ p = 21 ∨ p = 22 ∨ p = 23 ∨ p = 24 ∨ p = 25 := by omega
  have bad : ∀ q : Int, (r_impl_isPrime q == some false) = true → p ≠ q := by
    intro q hq e
    subst e
    rw [h] at hq
    cases hq
  have b4 := bad 4 (by decide +kernel)
  have b6 := bad 6 (by decide +kernel)
  have b8 := bad 8 (by decide +kernel)
  have b9 := bad 9 (by decide +kernel)
  have b10 := bad 10 (by decide +kernel)
  have b12 := bad 12 (by decide +kernel)
  have b14 := bad 14 (by decide +kernel)
  have b15 := bad 15 (by decide +kernel)
  have b16 := bad 16 (by decide +kernel)
  have b18 := bad 18 (by decide +kernel)
  have b20 := bad 20 (by decide +kernel)
  have b21 := bad 21 (by decide +kernel)
  have b22 := bad 22 (by decide +kernel)
  have b24 := bad 24 (by decide +kernel)
  have b25 := bad 25 (by decide +kernel)
  have h4 : p = 2 ∨ p = 3 ∨ p = 5 ∨ p = 7 ∨ p = 11 ∨ p = 13 ∨ p = 17 ∨ p = 19 ∨ p = 23 := by omega
  simpa [dPs] using h4
/-- What may descend, descends alike. -/
theorem tail_both {a b c d p : Int} (h : RedInv a b c d 1) (hr : IsRed a b c) (hd : -2000 ≤ d) (hp1 : 2 ≤ p) (hp2 : p ≤ 25) (hp : r_impl_isPrime p = some true) (hm : d.tmod (p * p) = 0) (hn : r_impl_isNegativeDisc (d.tdiv (p * p)) = some true) :
    ∃ q, dTail (a, b, c) p = some q ∧ sTail (a, b, c) p = some q := by
  obtain ⟨b1, b2, b3⟩ := red_bounds h hr hd
  have h1 := dTl_all h.a1 b1
  have h2 := dchB_at _ _ h1 b (by have := hr.1.1; omega) (by have := hr.1.2; have := h.a1; omega)
  have h3 := dchC_at _ _ h2 c b2 b3
  refine eqT_eq (dchP_at dPs h3 p (prime_25 hp1 hp2 hp) ?_)
  rw [h.dis]
  unfold tryP
  rw [hm, hn, eqI_true]
  have h4 : (eqI (Int.tmod a p) 0 && (eqI (Int.tmod b p) 0 && eqI (Int.tmod c p) 0)) = false := by
    rw [Bool.eq_false_iff]
    intro h5
    simp only [Bool.and_eq_true, eqI_eq, beq_iff_eq] at h5
    obtain ⟨u1, u2, u3⟩ := h5
    have h6 := (h.con p).1 ⟨Int.dvd_of_tmod_eq_zero u1, Int.dvd_of_tmod_eq_zero u2, Int.dvd_of_tmod_eq_zero u3⟩
    have := Int.le_of_dvd (by decide) h6
    omega
  rw [h4]
  rfl
/-- Descending. -/
theorem descend_both {f : Fm} {p : Int} (h : r_impl_canDescend f p = some true) : ∃ q, r_impl_descend f p = some q ∧ r_spec_odDescend f p = some q := by
  obtain ⟨a, b, c⟩ := f
  obtain ⟨h1, h2, h3, h4, h5, h6⟩ := can_true h
  obtain ⟨m, a2, b2, c2, g1, g2, g3, g4⟩ := red_both (red_of_class h1)
  obtain ⟨_, _, _, _, k5, _, _⟩ := class_true h1
  obtain ⟨q, t1, t2⟩ := tail_both g3 g4 k5 h2 h3 h4 h5 h6
  obtain ⟨y, hy⟩ := dEnd_some m p q
  refine ⟨(q.2.2.1, y), ?_, ?_⟩
  · rw [descend_tail g1, t1, Option.bind_some, hy]
  · rw [sdescend_tail g2 t2, hy]
theorem eqForm_self (f : Fm) : r_laws_eqForm f f = some true := by simp only [r_laws_eqForm, eqI_true, Bool.not_true, cond_false]
theorem eqMatrix_self (f : Mx) : r_laws_eqMatrix f f = some true := by simp only [r_laws_eqMatrix, eqI_true, Bool.not_true, cond_false]
theorem can_some (f : Fm) (p : Int) : ∃ b, r_impl_canDescend f p = some b := by
  obtain ⟨cb, hcb⟩ := class_some f
  simp only [r_impl_canDescend, hcb, Option.bind_some]
  cases cb with
  | false => exact ⟨_, rfl⟩
  | true =>
    simp only [Bool.not_true, cond_false, r_impl_IsPrime, num_val _ (show [p].length < 1000000 by simp), List.all_cons, List.all_nil, Bool.and_true, Option.bind_some]
    cases hN : inN p with
    | false => exact ⟨_, rfl⟩
    | true =>
      rw [inN_iff] at hN
      obtain ⟨q, hq⟩ := prime_some p (by omega)
      rw [hq]
      cases q with
      | false => exact ⟨_, rfl⟩
      | true =>
        have hp2 : 2 ≤ p := by
          rcases Int.lt_or_le p 2 with h1 | h1
          · simp only [r_impl_isPrime, ltI_eq, decide_eq_true h1, cond_true] at hq
            exact absurd (some_inj hq) (by decide)
          · exact h1
        simp only [cond_true, Option.bind_some, Bool.not_true, cond_false, ltI_eq]
        by_cases h3 : 2000 < p
        · rw [decide_eq_true h3]; exact ⟨_, rfl⟩
        · rw [decide_eq_false h3, cond_false]
          have m1 := abs_mul (x := p) (y := p) (A := 2000) (B := 2000) (by omega) (by omega)
          have m2 : 2 * 2 ≤ p * p := Int.mul_le_mul hp2 hp2 (by omega) (by omega)
          rw [w64_abs (n := p * p) (by omega), nz_ne (by omega)]
          simp only [Option.bind_some, r_impl_Form_disc, sI_eq, negdisc_val]
          cases eqI _ 0 <;> exact ⟨_, rfl⟩
theorem raw_DescendForm (f : Fm) (p : Int) : r_laws_FnExactDescendForm f p = some true := by
  obtain ⟨cb, hcb⟩ := can_some f p
  simp only [r_laws_FnExactDescendForm, r_laws_toForm, Option.bind_some, r_spec_DescendForm, r_impl_DescendForm, can_eq, hcb]
  cases cb with
  | false => simp only [Bool.not_false, cond_true, Option.bind_some, eqForm_self]; rfl
  | true =>
    obtain ⟨q, h1, h2⟩ := descend_both hcb
    simp only [Bool.not_true, cond_false, h1, h2, Option.bind_some, eqForm_self]
    rfl
theorem foMatrix_eq (m : Mx) : r_spec_foMatrix m = r_impl_IsMatrix m := by
  simp only [r_spec_foMatrix, r_impl_IsMatrix, good_val, num_val _ (show [m.1, m.2.1, m.2.2.1, m.2.2.2].length < 1000000 by simp), Option.bind_some, List.all_cons, List.all_nil, Bool.and_true]
  cases inN m.1 <;> cases inN m.2.1 <;> cases inN m.2.2.1 <;> cases inN m.2.2.2 <;> rfl
theorem isMatrix_some (m : Mx) : ∃ b, r_impl_IsMatrix m = some b := by
  simp only [r_impl_IsMatrix, num_val _ (show [m.1, m.2.1, m.2.2.1, m.2.2.2].length < 1000000 by simp), Option.bind_some]
  exact ⟨_, rfl⟩
theorem raw_DescentMatrix (f : Fm) (p : Int) : r_laws_FnExactDescentMatrix f p = some true := by
  obtain ⟨cb, hcb⟩ := can_some f p
  simp only [r_laws_FnExactDescentMatrix, r_laws_toForm, Option.bind_some, r_spec_DescentMatrix, r_impl_DescentMatrix, can_eq, hcb]
  cases cb with
  | false => simp only [Bool.not_false, cond_true, Option.bind_some, eqMatrix_self]; rfl
  | true =>
    obtain ⟨q, h1, h2⟩ := descend_both hcb
    obtain ⟨mb, hmb⟩ := isMatrix_some q.2
    simp only [Bool.not_true, cond_false, h1, h2, Option.bind_some, r_impl_checked, foMatrix_eq, hmb]
    cases mb with
    | false => simp only [Bool.not_false, cond_true, cond_false, Option.bind_some, eqMatrix_self]; rfl
    | true => simp only [Bool.not_true, cond_true, cond_false, Option.bind_some, eqMatrix_self]; rfl
end Go.Proofs.Ytdffhgibkeifmaa
