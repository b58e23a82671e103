/-
  For every drawn discriminant, the class numbers agree.
  Conditions: none.
-/
import Derived.Test.YtaegamgeljpboaaCfCfTab
import Derived.Test.YtaegamgeljpboaaCfCfQA
import Derived.Test.YtaegamgeljpboaaCfCur
namespace Go.Proofs.Ytaegamgeljpboaa
set_option linter.unusedVariables false
set_option linter.unusedSimpArgs false

theorem out_disc {d : Int} (h : ¬ (-2000 ≤ d ∧ d ≤ -3)) : r_spec_reDisc d = some false ∧ r_impl_isNegativeDisc d = some false := by
  simp only [r_spec_reDisc, r_impl_isNegativeDisc, r_spec_l1In, leI_eq, Option.bind_some]
  by_cases a : -2000 ≤ d
  · rw [decide_eq_true a, decide_eq_false (show ¬ d ≤ -3 by omega)]
    exact ⟨rfl, rfl⟩
  · rw [decide_eq_false a]
    exact ⟨rfl, rfl⟩
theorem cfA_all (d : Int) : cfA d = true := by
  by_cases h : -2000 ≤ d ∧ d ≤ -3
  · have e : d = -((d.natAbs : Nat) : Int) := by omega
    rw [e]
    exact cfA_of (by omega) (by omega) (cf_tab d.natAbs (by omega) (by omega)).1
  · obtain ⟨h1, h2⟩ := out_disc h
    have e0 : r_spec_huFundamental d = some false := by simp only [r_spec_huFundamental, h1, Option.bind_some, Bool.not_false, cond_true]
    have e1 : r_impl_ClassNumberBySum d = some (0, false) := by simp only [r_impl_ClassNumberBySum, r_impl_isFundamentalNegative, h2, Option.bind_some, Bool.not_false, cond_true]
    have e2 : r_spec_ClassNumberBySum d = some (0, false) := by simp only [r_spec_ClassNumberBySum, e0, Option.bind_some, Bool.not_false, cond_true]
    unfold cfA
    rw [e0, e1, e2]
    rfl
theorem cfB_all (d : Int) : cfB d = true := by
  by_cases h : -2000 ≤ d ∧ d ≤ -3
  · have e : d = -((d.natAbs : Nat) : Int) := by omega
    rw [e]
    exact (cf_tab d.natAbs (by omega) (by omega)).2
  · obtain ⟨h1, h2⟩ := out_disc h
    have e1 : r_impl_ClassNumberByConductor d = some (0, false) := by simp only [r_impl_ClassNumberByConductor, h2, Option.bind_some, Bool.not_false, cond_true]
    have e2 : r_spec_ClassNumberByConductor d = some (0, false) := by simp only [r_spec_ClassNumberByConductor, h1, Option.bind_some, Bool.not_false, cond_true]
    unfold cfB
    rw [e1, e2]
    rfl
theorem hu_some (d : Int) : ∃ b, r_spec_huFundamental d = some b := by
  have h := cfA_all d
  unfold cfA at h
  cases hb : r_spec_huFundamental d with
  | none => rw [hb] at h; cases h
  | some b => exact ⟨b, rfl⟩
theorem disc_ok {k : Nat} {c : List Int × Int × Int} (h : CurB k c) (hk : k ≤ 100000000000) : ∃ d c', r_spec_l1Cur_disc c = some (d, c') ∧ CurB (k + 4) c' := by
  obtain ⟨y, c1, e1, _, _, _, h1⟩ := pick_ok 16 h (by omega)
  simp only [r_spec_l1Cur_disc, e1, Option.bind_some]
  cases eqI y 0 with
  | true =>
    obtain ⟨x, c2, e2, _, h2⟩ := among_ok (l := [-3, -4, -2000, -1999, -1996, -1995, -163, -2001, -2003, -2004, 0, 1, 5, -1, -2, -5, -9223372036854775808]) (by simp) h1 (by omega)
    simp only [cond_true, e2, Option.bind_some]
    exact ⟨x, c2, rfl, h2⟩
  | false =>
    rw [cond_false]
    generalize hj : (bif eqI y 1 then some (eqI y 1) else some (eqI y 2)) = j
    have hj2 : ∃ b, j = some b := by subst hj; cases eqI y 1 <;> exact ⟨_, rfl⟩
    obtain ⟨b, rfl⟩ := hj2
    simp only [Option.bind_some]
    cases b with
    | true =>
      obtain ⟨x, c2, e2, x1, _, x3, h2⟩ := pick_ok 1998 h1 (by omega)
      have x4 := x3 (by omega)
      simp only [cond_true, e2, Option.bind_some, sI_eq, smod_eq]
      rw [w64_in (n := -3 - x) (by omega), mod_emod (by omega) (by omega)]
      simp only [Option.bind_some]
      cases ltI 1 ((-3 - x) % 4) with
      | true =>
        simp only [cond_true, r_spec_l1Most]
        cases ltI (w64 (-3 - x - 2)) (-2000) with
        | true => exact ⟨_, c2, rfl, h2⟩
        | false => exact ⟨_, c2, rfl, h2⟩
      | false => exact ⟨_, c2, rfl, h2⟩
    | false =>
      rw [cond_false]
      generalize hj3 : (bif eqI y 3 then some (eqI y 3) else bif eqI y 4 then some (eqI y 4) else some (eqI y 5)) = j3
      have hj4 : ∃ b, j3 = some b := by subst hj3; cases eqI y 3 <;> cases eqI y 4 <;> exact ⟨_, rfl⟩
      obtain ⟨b, rfl⟩ := hj4
      simp only [Option.bind_some]
      cases b with
      | true =>
        obtain ⟨x, c2, e2, _, h2⟩ := among_ok (l := [-84, -420, -231, -260, -455, -520, -660, -1155, -1320, -1380, -1428, -1540, -399, -1092, -1560, -1785]) (by simp) h1 (by omega)
        simp only [cond_true, e2, Option.bind_some]
        exact ⟨x, c2, rfl, h2⟩
      | false =>
        rw [cond_false]
        generalize hj5 : (bif eqI y 6 then some (eqI y 6) else some (eqI y 7)) = j5
        have hj6 : ∃ b, j5 = some b := by subst hj5; cases eqI y 6 <;> exact ⟨_, rfl⟩
        obtain ⟨b, rfl⟩ := hj6
        simp only [Option.bind_some]
        cases b with
        | true =>
          obtain ⟨x, c2, e2, _, _, _, h2⟩ := pick_ok 60 h1 (by omega)
          simp only [cond_true, e2, Option.bind_some, sI_eq]
          exact ⟨_, c2, rfl, h2⟩
        | false =>
          obtain ⟨x, c2, e2, _, _, _, h2⟩ := pick_ok 50 h1 (by omega)
          simp only [cond_false, e2, Option.bind_some, sI_eq]
          exact ⟨_, c2, rfl, h2⟩
theorem draw_run : ∀ (n i : Nat) (d : Int) (k : Nat) (c : List Int × Int × Int), i ≤ 4 → 4 - i < n → CurB k c → k + 4 * (4 - i) ≤ 1000000 → ∃ r, r_spec_DrawClassNumberBySum_L8 n d (i : Int) c.1 c.2.1 c.2.2 = some r
  | 0, i, d, k, c, _, h, _, _ => by omega
  | n + 1, i, d, k, c, hi, hn, hc, hk => by
    rw [r_spec_DrawClassNumberBySum_L8]
    obtain ⟨b, hb⟩ := hu_some d
    rw [ltI_eq, hb]
    simp only [Option.bind_some]
    by_cases h4 : (i : Int) < 4
    · rw [decide_eq_true h4, cond_true]
      simp only [Option.bind_some]
      cases b with
      | true => exact ⟨d, rfl⟩
      | false =>
        obtain ⟨d2, c2, e2, h2⟩ := disc_ok hc (by omega)
        have e2 : r_spec_l1Cur_disc (c.1, c.2.1, c.2.2) = some (d2, c2) := e2
        simp only [Bool.not_false, cond_true, e2, Option.bind_some, sI_eq]
        have ei : w64 ((i : Int) + 1) = ((i + 1 : Nat) : Int) := by rw [w64_in (by omega)]; push_cast; omega
        rw [ei]
        exact draw_run n (i + 1) d2 (k + 4) c2 (by omega) (by omega) h2 (by omega)
    · rw [decide_eq_false h4]
      exact ⟨d, rfl⟩
theorem draw_sum {code : List Int} (h1 : code.length ≤ 1048576) (h2 : ∀ x ∈ code, 0 ≤ x ∧ x ≤ 255) : ∃ d, r_spec_DrawClassNumberBySum code = some d := by
  have hFe : FU = 1000000000 := rfl
  obtain ⟨d, c, e, hc⟩ := disc_ok (CurB.start h1 h2) (by omega)
  obtain ⟨r, hr⟩ := draw_run FU 0 d 4 c (by omega) (by omega) hc (by omega)
  have hr : r_spec_DrawClassNumberBySum_L8 FU d 0 c.1 c.2.1 c.2.2 = some r := hr
  exact ⟨r, by simp only [r_spec_DrawClassNumberBySum, e, Option.bind_some, hr]⟩
theorem draw_con {code : List Int} (h1 : code.length ≤ 1048576) (h2 : ∀ x ∈ code, 0 ≤ x ∧ x ≤ 255) : ∃ d, r_spec_DrawClassNumberByConductor code = some d := by
  obtain ⟨y, c1, e1, _, _, _, hc1⟩ := pick_ok 2 (CurB.start h1 h2) (by omega)
  simp only [r_spec_DrawClassNumberByConductor, r_spec_l1Cur_one, e1, Option.bind_some]
  cases eqI y 0 with
  | true =>
    obtain ⟨x, c2, e2, _, _, _, hc2⟩ := pick_ok 15 hc1 (by omega)
    obtain ⟨z, c3, e3, _, _⟩ := among_ok (l := [-3, -4, -7, -8, -11, -15, -20]) (by simp) hc2 (by omega)
    simp only [cond_true, e2, e3, Option.bind_some, sI_eq]
    exact ⟨_, rfl⟩
  | false =>
    obtain ⟨d, c, e, hc⟩ := disc_ok hc1 (by omega)
    simp only [cond_false, e, Option.bind_some]
    exact ⟨_, rfl⟩
/-- The second half of the law. -/
def half2 (more : List Int) : Option Bool :=
  (r_spec_DrawClassNumberByConductor more).bind fun y19 =>
  (r_impl_ClassNumberByConductor y19).bind fun y20 =>
  (r_spec_ClassNumberByConductor y19).bind fun y21 =>
  bif (bif (y20.2 != y21.2) then true else (!eqI y20.1 y21.1)) then some false
  else (bif y20.2 then
      ((r_impl_ClassNumber y19).bind fun y25 =>
      (r_impl_OrdersAbove y19).bind fun y26 =>
      (r_impl_OverDiscriminants y19).bind fun y27 =>
      (bif (bif (bif (bif y25.2 then (eqI y25.1 y20.1) else false) then y26.2 else false) then y27.2 else false) then ((r_laws_sameInts y26.1 y27.1).bind fun y32 => some y32) else some false).bind fun b33 => some b33)
    else some true)
theorem half2_ok {more : List Int} (h1 : more.length ≤ 1048576) (h2 : ∀ x ∈ more, 0 ≤ x ∧ x ≤ 255) : half2 more = some true := by
  obtain ⟨d, hd⟩ := draw_con h1 h2
  have h := cfB_all d
  unfold half2
  rw [hd]
  simp only [Option.bind_some]
  unfold cfB at h
  cases e1 : r_impl_ClassNumberByConductor d with
  | none => rw [e1] at h; cases h
  | some x =>
    cases e2 : r_spec_ClassNumberByConductor d with
    | none => rw [e1, e2] at h; cases h
    | some y =>
      rw [e1, e2] at h
      simp only [Option.bind_some]
      cases hx : (bif (x.2 != y.2) then true else (!eqI x.1 y.1)) with
      | true =>
        have h : (bif (bif (x.2 != y.2) then true else (!eqI x.1 y.1)) then false else _) = true := h
        rw [hx] at h
        cases h
      | false =>
        have h : (bif (bif (x.2 != y.2) then true else (!eqI x.1 y.1)) then false else (bif x.2 then (match r_impl_ClassNumber d, r_impl_OrdersAbove d, r_impl_OverDiscriminants d with
          | some c, some u, some v => bif (bif (bif (bif c.2 then (eqI c.1 x.1) else false) then u.2 else false) then v.2 else false) then (match r_laws_sameInts u.1 v.1 with
            | some b => b
            | none => false) else false
          | _, _, _ => false) else true)) = true := h
        rw [hx, cond_false] at h
        rw [cond_false]
        cases hx2 : x.2 with
        | false => rfl
        | true =>
          rw [hx2, cond_true] at h
          rw [cond_true]
          cases e3 : r_impl_ClassNumber d with
          | none => rw [e3] at h; cases h
          | some c =>
            cases e4 : r_impl_OrdersAbove d with
            | none => rw [e3, e4] at h; cases h
            | some u =>
              cases e5 : r_impl_OverDiscriminants d with
              | none => rw [e3, e4, e5] at h; cases h
              | some v =>
                rw [e3, e4, e5] at h
                have h : (bif (bif (bif (bif c.2 then (eqI c.1 x.1) else false) then u.2 else false) then v.2 else false) then (match r_laws_sameInts u.1 v.1 with
                  | some b => b
                  | none => false) else false) = true := h
                simp only [Option.bind_some]
                cases hc : (bif (bif (bif c.2 then (eqI c.1 x.1) else false) then u.2 else false) then v.2 else false) with
                | false => rw [hc] at h; cases h
                | true =>
                  rw [hc, cond_true] at h
                  rw [cond_true]
                  cases e6 : r_laws_sameInts u.1 v.1 with
                  | none => rw [e6] at h; cases h
                  | some b =>
                    rw [e6] at h
                    have h : b = true := h
                    subst h
                    rfl
theorem raw_FnClassFormulas (code more : List Int) (hc8 : ∀ x ∈ code, 0 ≤ x ∧ x ≤ 255) (hm8 : ∀ x ∈ more, 0 ≤ x ∧ x ≤ 255) : r_laws_FnClassFormulas code more = some true := by
  rcases big_cases code more with hb | ⟨hb, hcl, hml⟩
  · simp only [r_laws_FnClassFormulas, hb, Option.bind_some, cond_true]
  · obtain ⟨d, hd⟩ := draw_sum hcl hc8
    have h2 := half2_ok hml hm8
    unfold half2 at h2
    have h := cfA_all d
    simp only [r_laws_FnClassFormulas, hb, Option.bind_some, cond_false, hd]
    unfold cfA at h
    cases e0 : r_spec_huFundamental d with
    | none => rw [e0] at h; cases h
    | some b0 =>
      cases e1 : r_impl_ClassNumberBySum d with
      | none => rw [e0, e1] at h; cases h
      | some x =>
        cases e2 : r_spec_ClassNumberBySum d with
        | none => rw [e0, e1, e2] at h; cases h
        | some y =>
          rw [e0, e1, e2] at h
          have h : (bif (bif (x.2 != y.2) then true else (!eqI x.1 y.1)) then false else (bif x.2 then (match r_impl_ClassNumber d, r_impl_ClassNumberByHalf d with
            | some c, some h => !(bif (bif (bif (!c.2) then true else (!eqI c.1 x.1)) then true else (h.2 != (ltI d (-4)))) then true else (bif h.2 then (!eqI h.1 x.1) else false))
            | _, _ => false) else true)) = true := h
          simp only [Option.bind_some]
          cases hx : (bif (x.2 != y.2) then true else (!eqI x.1 y.1)) with
          | true => rw [hx] at h; cases h
          | false =>
            rw [hx, cond_false] at h
            rw [cond_false]
            cases hx2 : x.2 with
            | false =>
              rw [cond_false]
              exact h2
            | true =>
              rw [hx2, cond_true] at h
              rw [cond_true]
              cases e3 : r_impl_ClassNumber d with
              | none => rw [e3] at h; cases h
              | some c =>
                cases e4 : r_impl_ClassNumberByHalf d with
                | none => rw [e3, e4] at h; cases h
                | some u =>
                  rw [e3, e4] at h
                  have h : (!(bif (bif (bif (!c.2) then true else (!eqI c.1 x.1)) then true else (u.2 != (ltI d (-4)))) then true else (bif u.2 then (!eqI u.1 x.1) else false))) = true := h
                  simp only [Option.bind_some]
                  cases ht : (bif (bif (bif (!c.2) then true else (!eqI c.1 x.1)) then true else (u.2 != (ltI d (-4)))) then true else (bif u.2 then (!eqI u.1 x.1) else false)) with
                  | true => rw [ht] at h; cases h
                  | false =>
                    rw [cond_false]
                    exact h2
end Go.Proofs.Ytaegamgeljpboaa
