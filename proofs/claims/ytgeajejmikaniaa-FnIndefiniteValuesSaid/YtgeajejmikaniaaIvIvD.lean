/-
  The drawn form and number: there always are such.
  Conditions: none.
-/
import Derived.Test.YtgeajejmikaniaaIvIvC
import Derived.Test.YtgeajejmikaniaaIvDrI
namespace Go.Proofs.Ytgeajejmikaniaa
set_option linter.unusedVariables false
set_option linter.unusedSimpArgs false

/-- The list of cyclic forms: some, not too many, and there is one with the first coefficient 1. -/
theorem all_in {d r a : Int} (h : Pd d r) (ha1 : -r ≤ a) (ha2 : a ≤ r) : ∀ (m fu : Nat) (b : Int) (acc : List F3), 1 ≤ b → b + m = r + 1 → m < fu → acc.length + m ≤ 1000000 →
    ∃ L, r_spec_cyAll_L11 a d r fu b acc = some (acc ++ L) ∧ L.length ≤ m ∧ (a = 1 → (∃ b0, b ≤ b0 ∧ b0 ≤ r ∧ r ≤ b0 + 1 ∧ 4 ∣ b0 * b0 - d) → L ≠ [])
  | m, 0, b, acc, _, _, hf, _ => by omega
  | 0, fu + 1, b, acc, h1, h2, hf, hl => by
    rw [r_spec_cyAll_L11, leI_eq, decide_eq_false (by omega), cond_false]
    refine ⟨[], by simp, by simp, fun _ ⟨b0, q1, q2, _⟩ => by omega⟩
  | m + 1, fu + 1, b, acc, h1, h2, hf, hl => by
    have h31 := h.r31
    have hr1 := h.sq.r1
    have hd5 := h.d5
    have hdM := h.dM
    have hbb : (b * b).natAbs ≤ 31 * 31 := abs_mul (by omega) (by omega)
    rw [r_spec_cyAll_L11, leI_eq, decide_eq_true (by omega), cond_true]
    rw [w64_in (n := 4 * a) (by omega), w64_in (n := b * b) (by omega), w64_in (n := b * b - d) (by omega), w64_in (n := b + 1) (by omega)]
    by_cases ha : a = 0
    · rw [ha, eqI_true]
      simp only [cond_true, Option.bind_some, sI_eq]
      obtain ⟨L, e1, e2, e3⟩ := all_in h (a := 0) (by omega) (by omega) m fu (b + 1) acc (by omega) (by omega) (by omega) (by omega)
      exact ⟨L, e1, by omega, fun h => by omega⟩
    · rw [eqI_false ha]
      simp only [cond_false, nz_ne (show 4 * a ≠ 0 by omega), Option.bind_some, sI_eq]
      rw [tz (show 4 * a ≠ 0 by omega)]
      by_cases hdv : 4 * a ∣ b * b - d
      · rw [decide_eq_true hdv]
        simp only [Bool.not_true, cond_false]
        obtain ⟨c, hc⟩ := hdv
        rw [tdv (b := 4 * a) (c := c) (by omega) hc.symm]
        have hcb : c.natAbs ≤ 2000 := by
          have e : (4 * a * c).natAbs = 4 * a.natAbs * c.natAbs := by rw [Int.natAbs_mul, Int.natAbs_mul]; rfl
          have : c.natAbs * 4 ≤ 4 * a.natAbs * c.natAbs := by
            rw [Nat.mul_comm]
            exact Nat.mul_le_mul_right _ (by omega)
          omega
        rw [w64_in (n := c) (by omega)]
        have hF : Fm d (a, b, c) := ⟨inN_iff.2 (by simp only []; omega), inN_iff.2 (by simp only []; omega), inN_iff.2 (by simp only []; omega), by simp only []; omega⟩
        have hcont := scontent_val hF.ia hF.ib hF.ic
        simp only [] at hcont
        rw [(cyc_val h hF).2]
        simp only [Option.bind_some]
        by_cases hcy : Cy r (a, b, c)
        · rw [decide_eq_true hcy]
          simp only [cond_true, hcont, Option.bind_some]
          cases hg : eqI (Int.gcd a (Int.gcd b c) : Int) 1 with
          | true =>
            rw [cond_true, roomOk (by simp; omega)]
            simp only [Option.bind_some]
            obtain ⟨L, e1, e2, e3⟩ := all_in h ha1 ha2 m fu (b + 1) (acc ++ [(a, b, c)]) (by omega) (by omega) (by omega) (by simp; omega)
            exact ⟨(a, b, c) :: L, by rw [e1]; simp, by simp; omega, fun _ _ => by simp⟩
          | false =>
            rw [cond_false]
            obtain ⟨L, e1, e2, e3⟩ := all_in h ha1 ha2 m fu (b + 1) acc (by omega) (by omega) (by omega) (by omega)
            refine ⟨L, e1, by omega, fun h1' ⟨b0, q1, q2, q3⟩ => ?_⟩
            exfalso
            subst h1'
            rw [eqI_eq] at hg
            simp at hg
        · rw [decide_eq_false hcy]
          simp only [cond_false, Option.bind_some]
          obtain ⟨L, e1, e2, e3⟩ := all_in h ha1 ha2 m fu (b + 1) acc (by omega) (by omega) (by omega) (by omega)
          refine ⟨L, e1, by omega, fun h1' ⟨b0, q1, q2, q3, q4⟩ => e3 h1' ⟨b0, ?_, q2, q3, q4⟩⟩
          rcases Int.lt_or_le b b0 with hlt | hge
          · omega
          · exfalso
            have : b0 = b := by omega
            subst this h1'
            have hr2 : 2 ≤ r := by
              rcases Int.lt_or_le 1 r with k | k
              · exact k
              · have : r = 1 := by omega
                have := h.sq.hi
                subst_vars
                omega
            exact hcy ⟨by simp only []; omega, q2, by simp only []; omega, by simp only []; omega⟩
      · rw [decide_eq_false hdv]
        simp only [Bool.not_false, cond_true]
        obtain ⟨L, e1, e2, e3⟩ := all_in h ha1 ha2 m fu (b + 1) acc (by omega) (by omega) (by omega) (by omega)
        refine ⟨L, e1, by omega, fun h1' ⟨b0, q1, q2, q3, q4⟩ => e3 h1' ⟨b0, ?_, q2, q3, q4⟩⟩
        rcases Int.lt_or_le b b0 with hlt | hge
        · omega
        · exfalso
          have : b0 = b := by omega
          subst this h1'
          exact hdv q4
theorem all_out {d r : Int} (h : Pd d r) : ∀ (m fu : Nat) (a : Int) (acc : List F3), -r ≤ a → a + m = r + 1 → m < fu → acc.length + 31 * m ≤ 100000 →
    ∃ L, r_spec_cyAll_L6 d r fu a acc = some (acc ++ L) ∧ L.length ≤ 31 * m ∧ (a ≤ 1 → L ≠ [])
  | m, 0, a, acc, _, _, hf, _ => by omega
  | 0, fu + 1, a, acc, h1, h2, hf, hl => by
    rw [r_spec_cyAll_L6, leI_eq, decide_eq_false (by omega), cond_false]
    have := h.sq.r1
    exact ⟨[], by simp, by simp, fun h => by omega⟩
  | m + 1, fu + 1, a, acc, h1, h2, hf, hl => by
    have h31 := h.r31
    have hr1 := h.sq.r1
    have hF := FUge
    obtain ⟨L, e1, e2, e3⟩ := all_in h (a := a) h1 (by omega) r.toNat FU 1 acc (by omega) (by omega) (by omega) (by omega)
    obtain ⟨L2, f1, f2, f3⟩ := all_out h m fu (a + 1) (acc ++ L) (by omega) (by omega) (by omega) (by simp; omega)
    rw [r_spec_cyAll_L6, leI_eq, decide_eq_true (by omega), cond_true, e1]
    simp only [Option.bind_some, sI_eq]
    rw [w64_in (n := a + 1) (by omega), f1]
    refine ⟨L ++ L2, by simp, by simp; omega, fun ha => ?_⟩
    by_cases ha1 : a = 1
    · have hne : L ≠ [] := e3 ha1 (by
        have h4 := h.d4
        have h5 := h.d5
        have hhi := h.sq.hi
        have hr2 : 2 ≤ r := by
          rcases Int.lt_or_le 1 r with k | k
          · exact k
          · have : r = 1 := by omega
            subst this
            omega
        have key : ∀ z : Int, z % 2 = d % 2 → 4 ∣ z * z - d := by
          intro z hz
          obtain ⟨t, ht | ht⟩ : ∃ t, z = 2 * t ∨ z = 2 * t + 1 := ⟨z / 2, by omega⟩
          · rw [ht, show 2 * t * (2 * t) = 4 * (t * t) by grind]; omega
          · rw [ht, show (2 * t + 1) * (2 * t + 1) = 4 * (t * t + t) + 1 by grind]; omega
        rcases (show r % 2 = d % 2 ∨ (r - 1) % 2 = d % 2 by omega) with k | k
        · exact ⟨r, by omega, by omega, by omega, key r k⟩
        · exact ⟨r - 1, by omega, by omega, by omega, key _ k⟩)
      intro e
      exact hne (List.append_eq_nil_iff.1 e).1
    · intro e
      exact f3 (by omega) (List.append_eq_nil_iff.1 e).2
theorem all_val {d r : Int} (h : Pd d r) : ∃ L, r_spec_cyAll d = some L ∧ L ≠ [] ∧ L.length ≤ 10000 := by
  have h31 := h.r31
  have hr1 := h.sq.r1
  have hF := FUge
  obtain ⟨L, e1, e2, e3⟩ := all_out h (2 * r + 1).toNat FU (-r) [] (by omega) (by omega) (by omega) (by simp; omega)
  refine ⟨L, ?_, e3 (by omega), by omega⟩
  simp only [r_spec_cyAll, h.srt, Option.bind_some, sI_eq]
  rw [show (0 - r) = -r by omega, w64_in (n := -r) (by omega), e1]
  simp
theorem positive_ok {k : Nat} {c : List Int × Int × Int} (h : CurB k c) (hk : k ≤ 100000000) : ∃ d c', r_spec_l1Cur_positive c = some (d, c') ∧ CurB (k + 6) c' := by
  obtain ⟨y, c1, e1, _, _, _, h1⟩ := pick_ok 10 h (by omega)
  simp only [r_spec_l1Cur_positive, e1, Option.bind_some]
  have hj : ∃ j, (bif eqI y 1 then some (eqI y 1) else some (eqI y 2) : Option Bool) = some j := by
    cases eqI y 1 <;> exact ⟨_, rfl⟩
  obtain ⟨j, hj⟩ := hj
  cases eqI y 0 with
  | true =>
    obtain ⟨d, c2, e2, _, h2⟩ := among_ok (l := [4, 9, 1000, 1001, 0, -3, 5, 997, 1004, 996, 2, 1099511627776]) (by simp) h1 (by omega)
    exact ⟨d, c2, by simp only [cond_true, e2, Option.bind_some], h2.up (by omega)⟩
  | false =>
    simp only [cond_false, hj, Option.bind_some]
    cases j with
    | true =>
      obtain ⟨d, c2, e2, _, h2⟩ := among_ok (l := [5, 8, 12, 13, 60, 136, 221, 229, 257, 316, 401, 520, 780, 840, 924]) (by simp) h1 (by omega)
      exact ⟨d, c2, by simp only [cond_true, e2, Option.bind_some], h2.up (by omega)⟩
    | false =>
      obtain ⟨z, c2, e2, _, _, _, h2⟩ := pick_ok 240 h1 (by omega)
      obtain ⟨b, c3, e3, h3⟩ := one_ok 2 h2 (by omega)
      simp only [cond_false, e2, e3, Option.bind_some, sI_eq]
      cases b with
      | true => exact ⟨_, c3, rfl, h3.up (by omega)⟩
      | false => exact ⟨_, c3, rfl, h3.up (by omega)⟩
theorem pd136 : ∃ r, Pd 136 r := by
  obtain ⟨b, e1, e2, e3⟩ := pd_val 136
  have : r_spec_cyDisc 136 = some true := by decide +kernel
  rw [this] at e2
  exact e3 (some_inj e2).symm
theorem goodPositive_ok {k : Nat} {c : List Int × Int × Int} (h : CurB k c) (hk : k ≤ 100000000) : ∃ d r c', r_spec_l1Cur_goodPositive c = some (d, c') ∧ Pd d r ∧ CurB (k + 6) c' := by
  obtain ⟨d, c1, e1, h1⟩ := positive_ok h hk
  obtain ⟨b, _, f2, f3⟩ := pd_val d
  simp only [r_spec_l1Cur_goodPositive, e1, f2, Option.bind_some]
  cases b with
  | true =>
    obtain ⟨r, hr⟩ := f3 rfl
    exact ⟨d, r, c1, rfl, hr, h1⟩
  | false =>
    obtain ⟨r, hr⟩ := pd136
    exact ⟨136, r, c1, rfl, hr, h1⟩
theorem cyclic_ok {k : Nat} {c : List Int × Int × Int} {d r : Int} (hd : Pd d r) (h : CurB k c) (hk : k ≤ 100000000) : ∃ f c', r_spec_l1Cur_cyclic c d = some (f, c') ∧ CurB (k + 2) c' := by
  obtain ⟨L, l1, l2, l3⟩ := all_val hd
  obtain ⟨x, c1, e1, x0, x1, x2, h1⟩ := pick_ok (L.length : Int) h (by omega)
  have hpos : 0 < L.length := List.length_pos_iff.2 l2
  have hx : x < (L.length : Int) := by
    rcases Int.lt_or_le 1 (L.length : Int) with h | h
    · exact x2 h
    · have := x1 h; omega
  obtain ⟨f, e2, _⟩ := getI_in x0 hx
  exact ⟨f, c1, by simp only [r_spec_l1Cur_cyclic, l1, e1, e2, Option.bind_some], h1⟩
theorem indefinite_ok {k : Nat} {c : List Int × Int × Int} (h : CurB k c) (hk : k ≤ 10000000) : ∃ f c', r_spec_l1Cur_indefinite c = some (f, c') ∧ CurB (k + 100) c' := by
  obtain ⟨b, c1, e1, h1⟩ := one_ok 10 h (by omega)
  simp only [r_spec_l1Cur_indefinite, e1, Option.bind_some]
  cases b with
  | true =>
    obtain ⟨f, c2, e2, h2⟩ := form_ok h1 (by omega)
    exact ⟨f, c2, by simp only [cond_true, e2, Option.bind_some], h2.up (by omega)⟩
  | false =>
    obtain ⟨d, r, c2, e2, hd, h2⟩ := goodPositive_ok h1 (by omega)
    obtain ⟨f, c3, e3, h3⟩ := cyclic_ok hd h2 (by omega)
    obtain ⟨b2, c4, e4, h4⟩ := one_ok 8 h3 (by omega)
    have hdis : ∃ y, r_spec_foDisc f = some y := ⟨_, by rw [disc_eq]; exact disc_w f.1 f.2.1 f.2.2⟩
    obtain ⟨y, hy⟩ := hdis
    have hb3 : ∃ b3, (bif b2 then (r_spec_foDisc f).bind fun y10 => some (ltI y10 100) else some false : Option Bool) = some b3 := by
      rw [hy]
      cases b2 <;> exact ⟨_, rfl⟩
    obtain ⟨b3, hb3⟩ := hb3
    have hj : ∃ a b c, (bif b3 then (sI (w64 (3 * f.1)) fun f13 => sI (w64 (3 * f.2.1)) fun f14 => sI (w64 (3 * f.2.2)) fun f15 => some (f13, f14, f15, c4.1, c4.2.1, c4.2.2)) else some (f.1, f.2.1, f.2.2, c4.1, c4.2.1, c4.2.2) : Option (Int × Int × Int × List Int × Int × Int)) = some (a, b, c, c4.1, c4.2.1, c4.2.2) := by
      cases b3 with
      | true => exact ⟨w64 (3 * f.1), w64 (3 * f.2.1), w64 (3 * f.2.2), by simp only [cond_true, sI_eq]⟩
      | false => exact ⟨_, _, _, rfl⟩
    obtain ⟨x, y', z, hj⟩ := hj
    simp only [cond_false, e2, e3, e4, hb3, Option.bind_some, hj]
    obtain ⟨b5, c5, e5, h5⟩ := one_ok 5 h4 (by omega)
    have e5' : r_spec_l1Cur_one (c4.1, c4.2.1, c4.2.2) 5 = some (b5, c5) := e5
    rw [e5', Option.bind_some]
    cases b5 with
    | true => exact ⟨_, c5, rfl, h5.up (by omega)⟩
    | false =>
      obtain ⟨g, c6, e6, h6⟩ := moved_ok (x, y', z) h5 (by omega)
      exact ⟨g, c6, by simp only [cond_false, e6, Option.bind_some], h6.up (by omega)⟩
theorem small_val {f : F3} {x y : Int} (ha : inN f.1 = true) (hb : inN f.2.1 = true) (hc : inN f.2.2 = true) (hx : x.natAbs ≤ 3) (hy : y.natAbs ≤ 3) : r_impl_Form_at f x y = some (f.1 * x * x + f.2.1 * x * y + f.2.2 * y * y) ∧ (f.1 * x * x + f.2.1 * x * y + f.2.2 * y * y).natAbs ≤ 27000000 := by
  obtain ⟨a, b, c⟩ := f
  have ia := inN_iff.1 ha
  have ib := inN_iff.1 hb
  have ic := inN_iff.1 hc
  simp only [] at ia ib ic ⊢
  have m1 : (a * x * x).natAbs ≤ 1000000 * 3 * 3 := abs_mul (abs_mul (by omega) hx) hx
  have m2 : (b * x * y).natAbs ≤ 1000000 * 3 * 3 := abs_mul (abs_mul (by omega) hx) hy
  have m3 : (c * y * y).natAbs ≤ 1000000 * 3 * 3 := abs_mul (abs_mul (by omega) hy) hy
  refine ⟨?_, by omega⟩
  rw [at_w, w64_in (by omega)]
theorem iv_draw {code : List Int} (hc : code.length ≤ 1048576) (hc8 : ∀ x ∈ code, 0 ≤ x ∧ x ≤ 255) : ∃ f n, r_spec_DrawIndefinitePoints code = some (f, n) ∧ n.natAbs ≤ 27000000 := by
  obtain ⟨f, c1, e1, h1⟩ := indefinite_ok (CurB.start hc hc8) (by omega)
  obtain ⟨x, c2, e2, x0, _, x2, h2⟩ := pick_ok 100 h1 (by omega)
  have hx := x2 (by decide)
  obtain ⟨n, c3, e3, hn, h3⟩ := among_ok (l := [1, -1, 2, -2, 200, -200, 201, 0, w64 (x - 50)]) (by simp) h2 (by omega)
  have hnb : n.natAbs ≤ 201 := by
    rw [w64_in (n := x - 50) (by omega)] at hn
    simp only [List.mem_cons, List.not_mem_nil, or_false] at hn
    omega
  obtain ⟨b, _, g2, g3⟩ := ind_val f
  simp only [r_spec_DrawIndefinitePoints, e1, e2, e3, g2, Option.bind_some]
  cases b with
  | false => exact ⟨f, n, rfl, by omega⟩
  | true =>
    obtain ⟨b2, c4, e4, h4⟩ := one_ok 2 h3 (by omega)
    simp only [cond_true, e4, Option.bind_some]
    cases b2 with
    | false => exact ⟨f, n, rfl, by omega⟩
    | true =>
      obtain ⟨u, c5, e5, u0, _, u2, h5⟩ := pick_ok 7 h4 (by omega)
      obtain ⟨v, c6, e6, v0, _, v2, h6⟩ := pick_ok 7 h5 (by omega)
      have hu := u2 (by decide)
      have hv := v2 (by decide)
      obtain ⟨D, r, hD, hF⟩ := g3 rfl
      obtain ⟨s1, s2⟩ := small_val hF.ia hF.ib hF.ic (x := u - 3) (y := v - 3) (by omega) (by omega)
      have s1' : r_spec_foValue f (u - 3) (v - 3) = _ := s1
      simp only [cond_true, e5, e6, Option.bind_some]
      rw [w64_in (n := u - 3) (by omega), w64_in (n := v - 3) (by omega), s1']
      exact ⟨f, _, rfl, s2⟩
end Go.Proofs.Ytgeajejmikaniaa
