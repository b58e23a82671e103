/-
  The forms of a level: the program's and the reference's are one.
  Conditions: none.
-/
import Derived.Test.YtgeajejmikaniaaLvLvC
import Derived.Test.YtgeajejmikaniaaLvLvAX
import Derived.Test.YtgeajejmikaniaaLvRlI
import Derived.Test.YtgeajejmikaniaaLvDisc
import Derived.Test.YtgeajejmikaniaaLvDrw
namespace Go.Proofs.Ytgeajejmikaniaa
set_option linter.unusedVariables false
set_option linter.unusedSimpArgs false

theorem prc_of_prr {D : Int} {f : Int × Int × Int} (h : PrR D f) : PrRc D f := by
  obtain ⟨h1, h2, h3, h4⟩ := h
  refine ⟨h1, h2, h3, fun k k1 k2 k3 => ?_⟩
  have h5 : k ∣ (Int.gcd f.1 (Int.gcd f.2.1 f.2.2) : Int) := Int.dvd_coe_gcd k1 (Int.dvd_coe_gcd k2 k3)
  rw [h4] at h5
  exact h5
/-! ### The roots -/
def rT (d : Int) (N : Nat) (b : Int) : Bool := eqI (Int.tmod (b * b - d) (4 * (N : Int))) 0
def rts (d : Int) (N : Nat) (k m : Nat) : List Int := ((List.range' k m).map (fun x : Nat => (x : Int))).filter (rT d N)
theorem roots_run {d : Int} {N : Nat} (hd : d.natAbs ≤ 1000000) (hN1 : 1 ≤ N) (hN : N ≤ 2500) : ∀ (m fu k : Nat) (acc : List Int), k + m = 2 * N → m < fu → acc.length ≤ k → r_impl_rootsOfDiscriminant_L5 d (N : Int) fu (k : Int) acc = some (acc ++ rts d N k m)
  | m, 0, k, acc, h1, h2, h3 => by omega
  | 0, fu + 1, k, acc, h1, h2, h3 => by
    rw [r_impl_rootsOfDiscriminant_L5, ltI_eq, w64_in (by omega), decide_eq_false (by omega), cond_false]
    simp [rts]
  | m + 1, fu + 1, k, acc, h1, h2, h3 => by
    have hkk := abs_mul (x := (k : Int)) (y := k) (A := 5000) (B := 5000) (by omega) (by omega)
    rw [r_impl_rootsOfDiscriminant_L5, ltI_eq, w64_in (n := 2 * (N : Int)) (by omega), decide_eq_true (by omega), cond_true]
    rw [w64_in (n := 4 * (N : Int)) (by omega), nzOk (by omega), w64_abs (n := (k : Int) * k) (by omega), w64_abs (n := (k : Int) * k - d) (by omega)]
    have e : rts d N k (m + 1) = if rT d N k then (k : Int) :: rts d N (k + 1) m else rts d N (k + 1) m := by
      unfold rts
      rw [List.range'_succ, List.map_cons, List.filter_cons]
    have et : eqI (Int.tmod ((k : Int) * k - d) (4 * (N : Int))) 0 = rT d N k := rfl
    rw [e, et]
    simp only [Option.bind_some, sI_eq, wsucc (show k < 1000000000 by omega)]
    cases rT d N k with
    | true =>
      rw [cond_true, if_pos rfl, roomOk (by simp; omega), Option.bind_some, roots_run hd hN1 hN m fu (k + 1) _ (by omega) (by omega) (by simp; omega)]
      simp
    | false =>
      rw [cond_false, if_neg (by simp), roots_run hd hN1 hN m fu (k + 1) _ (by omega) (by omega) (by omega)]
theorem sroots_eq (d n : Int) : ∀ (fu : Nat) (b : Int) (acc : List Int), r_spec_lvRoots_L5 d n fu b acc = r_impl_rootsOfDiscriminant_L5 d n fu b acc
  | 0, b, acc => rfl
  | fu + 1, b, acc => by
    rw [r_spec_lvRoots_L5, r_impl_rootsOfDiscriminant_L5]
    simp only [sI_eq, sroots_eq d n fu]
theorem roots_mem {d : Int} {N : Nat} (hN : 1 ≤ N) {r : Int} (h : r ∈ rts d N 0 (2 * N)) : 0 ≤ r ∧ r < 2 * (N : Int) ∧ 4 * (N : Int) ∣ r * r - d := by
  unfold rts at h
  obtain ⟨h1, h2⟩ := List.mem_filter.1 h
  obtain ⟨k, k1, rfl⟩ := List.mem_map.1 h1
  rw [List.mem_range'_1] at k1
  refine ⟨by omega, by omega, ?_⟩
  unfold rT at h2
  rw [tz (by omega)] at h2
  exact of_decide_eq_true h2
theorem roots_nodup (d : Int) (N m : Nat) : (rts d N 0 m).Nodup := by
  unfold rts
  refine List.Nodup.sublist List.filter_sublist ?_
  refine List.Pairwise.map _ ?_ (List.nodup_range' (s := 0) (n := m))
  intro a b h1 h2
  exact h1 (by omega)
theorem roots_len (d : Int) (N m : Nat) : (rts d N 0 m).length ≤ m := by
  unfold rts
  refine Nat.le_trans (List.length_filter_le _ _) ?_
  simp
theorem roots_val {d : Int} {N : Nat} (hd : d.natAbs ≤ 1000000) (hN1 : 1 ≤ N) (hN : N ≤ 2500) : r_impl_rootsOfDiscriminant d (N : Int) = some (rts d N 0 (2 * N)) ∧ r_spec_lvRoots d (N : Int) = some (rts d N 0 (2 * N)) := by
  have k1 := roots_run hd hN1 hN (2 * N) FU 0 [] (by omega) (by have := FUge; omega) (by simp)
  rw [List.nil_append] at k1
  have k1 : r_impl_rootsOfDiscriminant_L5 d (N : Int) FU 0 [] = some (rts d N 0 (2 * N)) := k1
  simp only [r_impl_rootsOfDiscriminant, r_spec_lvRoots, sroots_eq, k1, Option.bind_some, and_self]
/-! ### The form of a level -/
theorem level_run {v n r Bh k1 : Int} {f1 : Int × Int × Int} {Ch : Int} {mm : Int × Int × Int × Int} (hv : 1 ≤ v) (hv2 : v ≤ 30000) (hn : 1 ≤ n) (hn2 : n ≤ 30) (hr0 : 0 ≤ r) (hr1 : r < 60) (hB0 : 0 ≤ Bh) (hB2 : Bh < 2 * v) (hk1 : k1 < n) (hd : 2 * n ∣ Bh + 2 * v * k1 - (-r) % (2 * n)) : ∀ (fu : Nat) (k : Int), 0 ≤ k → k ≤ k1 → (k1 - k).toNat < fu →
    ∃ k2, r_impl_levelForm_L7 f1 n r ((v, Bh, Ch), mm) fu (Bh + 2 * v * k) = some (Bh + 2 * v * k2) ∧ k ≤ k2 ∧ k2 ≤ k1 ∧ 2 * n ∣ Bh + 2 * v * k2 - (-r) % (2 * n)
  | 0, k, h0, h1, hf => by omega
  | fu + 1, k, h0, h1, hf => by
    have m1 : (2 * v * k).natAbs ≤ 2 * 30000 * 30 := abs_mul (abs_mul (by omega) (by omega)) (by omega)
    have q1 := Int.emod_add_mul_ediv (-r) (2 * n)
    have hiff : ∀ x : Int, 2 * n ∣ x + r ↔ 2 * n ∣ x - (-r) % (2 * n) := by
      intro x
      generalize (-r) % (2 * n) = R at *
      constructor
      · rintro ⟨i, hi⟩
        exact ⟨i + (-r) / (2 * n), by rw [Int.mul_add]; omega⟩
      · rintro ⟨i, hi⟩
        exact ⟨i - (-r) / (2 * n), by rw [Int.mul_sub]; omega⟩
    rw [r_impl_levelForm_L7]
    simp only []
    rw [w64_in (n := Bh + 2 * v * k + r) (by omega), w64_in (n := 2 * n) (by omega), dsc_mod_val (by omega) (by omega)]
    simp only [Option.bind_some]
    by_cases hz : (Bh + 2 * v * k + r) % (2 * n) = 0
    · rw [hz, eqI_true]
      exact ⟨k, rfl, Int.le_refl _, h1, (hiff _).1 (Int.dvd_of_emod_eq_zero hz)⟩
    · rw [eqI_false hz]
      simp only [Bool.not_false, cond_true, sI_eq]
      have hne : k ≠ k1 := by
        intro e
        rw [e] at hz
        exact hz (Int.emod_eq_zero_of_dvd ((hiff _).2 hd))
      have e1 : Bh + 2 * v * k + 2 * v = Bh + 2 * v * (k + 1) := by rw [Int.mul_add]; omega
      rw [w64_in (n := 2 * v) (by omega), w64_in (n := Bh + 2 * v * k + 2 * v) (by omega), e1]
      obtain ⟨k2, j1, j2, j3, j4⟩ := level_run hv hv2 hn hn2 hr0 hr1 hB0 hB2 hk1 hd fu (k + 1) (by omega) (by omega) (by omega)
      exact ⟨k2, j1, by omega, j3, j4⟩
theorem red_self {A B C : Int} (hA : 1 ≤ A) (hA2 : A ≤ 1000000) (h : IsRed A B C) : r_spec_reClass (A, B, C) = some (A, B, C) := by
  have hF := FUge
  have h1 : r_spec_reIs (A, B, C) = some true := by rw [sred_is hA hA2, decide_eq_true h]
  obtain ⟨k, hk⟩ : ∃ k, FU = k + 1 := ⟨FU - 1, by omega⟩
  have h2 : ∃ m, r_spec_reReduce (A, B, C) = some ((A, B, C), m) := by
    unfold r_spec_reReduce
    rw [hk, r_spec_reReduce_L9]
    simp only [h1, Option.bind_some, Bool.not_true, cond_false]
    exact ⟨_, rfl⟩
  obtain ⟨m, hm⟩ := h2
  simp only [r_spec_reClass, hm, Option.bind_some]
theorem level_both {D : Int} {n r : Int} {f : Int × Int × Int} (hD1 : -2000 ≤ D) (hD2 : D < 0) (hf : PrRc D f) (hn : 1 ≤ n) (hn2 : n ≤ 30) (hr0 : 0 ≤ r) (hr1 : r < 2 * n) (hr : 4 * n ∣ r * r - D) :
    ∃ h : Int × Int × Int, LvF D n r f h ∧ r_impl_levelForm f n r = some (h, inN h.1 && (inN h.2.1 && inN h.2.2)) ∧ r_spec_lvMake f n r = some h := by
  have hF := FUge
  obtain ⟨rf, ra⟩ := prr_rb hD1 hf
  obtain ⟨A, B, C⟩ := f
  obtain ⟨f1, f2, f3, f4⟩ := hf
  simp only [] at rf ra f1 f2 f3 f4
  obtain ⟨⟨x, y⟩, p1, p2, p3, p4⟩ := point_both rf hn hn2 f4
  simp only [] at p3 p4
  have hxy : x ≠ 0 ∨ y ≠ 0 := by
    simp only [ptL, List.mem_cons, Prod.mk.injEq, List.not_mem_nil, or_false] at p3
    omega
  obtain ⟨⟨u1, u2⟩, u3⟩ := f2
  have hv1 : 1 ≤ Vl A B C x y := by
    have := uq_a f1 (show -A ≤ B by omega) u2 (show A ≤ C by omega) hxy
    unfold Vl
    omega
  obtain ⟨q, s, hB, hC, c1, c2, em, t1, t2, v2, qb, sb, x1, x2, y1, y2⟩ := complete_both rf f3 hD1 (by omega) p3 rfl hv1
  generalize he : Vl A B C x y = v at *
  obtain ⟨k1, b, c, hN, hc, hL, v1, hinv⟩ := lv_nums hv1 v2 hn hn2 t1 t2 p4 hr hD1 hD2 em f3
  obtain ⟨k0, k2, hit, win, bb, dis, cc⟩ := hN
  obtain ⟨k, l1, l2, l3, l4⟩ := level_run (f1 := (A, B, C)) (Ch := hC) (mm := (x, q, y, s)) hv1 v2 hn hn2 hr0 (by omega) t1 t2 k2 hit FU 0 (by omega) k0 (by omega)
  have hk : k = k1 := common_uni l2 (by omega) k0 k2 hit l4 hinv
  subst hk
  rw [Int.mul_zero, Int.add_zero] at l1
  have hvn : 1 * 1 ≤ v * n := Int.mul_le_mul hv1 hn (by omega) (by omega)
  have hvn2 : v * n ≤ 30000 * 30 := Int.mul_le_mul v2 hn2 (by omega) (by omega)
  have hk : 2 * v * k ≤ 2 * v * (n - 1) := Int.mul_le_mul_of_nonneg_left (by omega) (by omega)
  have hk' : 2 * v * (n - 1) = 2 * (v * n) - 2 * v := by grind
  have hk0 : 0 ≤ 2 * v * k := Int.mul_nonneg (by omega) k0
  have hw := lv_window (m := v * n) (b1 := hB + 2 * v * k) (by omega) (by omega) (by omega)
  rw [← win] at hw
  have hmod0 := Int.emod_nonneg (v * n - (hB + 2 * v * k)) (b := 2 * (v * n)) (by omega)
  have hmod1 := Int.emod_lt_of_pos (v * n - (hB + 2 * v * k)) (b := 2 * (v * n)) (by omega)
  have hbb := abs_mul bb bb
  have d4 : 4 * v * c = b * b - D := by grind
  have t3 : Int.tdiv (b * b - D) (4 * v) = c := tdv (by omega) d4
  have hdv : ∀ {A B C : Int}, B * B - 4 * A * C = D → r_impl_Form_disc (A, B, C) = some D := by
    intro A B C h
    rw [disc_w, h, w64_in (by omega)]
  refine ⟨(c, -b, v), hL, ?_, ?_⟩
  · unfold r_impl_levelForm
    rw [p1, Option.bind_some]
    simp only []
    rw [c1, Option.bind_some]
    simp only []
    rw [l1, Option.bind_some, w64_in (n := v * n) (by omega), w64_in (n := v * n - (hB + 2 * v * k)) (by omega), w64_in (n := 2 * v) (by omega), show 2 * v * n = 2 * (v * n) from Int.mul_assoc .., w64_in (n := 2 * (v * n)) (by omega), dsc_mod_val (by omega) (by omega), Option.bind_some]
    simp only [sI_eq]
    rw [w64_in (n := v * n - _) (by omega), hw, hdv f3, Option.bind_some, w64_in (n := 4 * v) (by omega), nz_ne (show 4 * v ≠ 0 by omega), Option.bind_some, w64_in (n := b * b) (by omega), w64_in (n := b * b - D) (by omega), t3, w64_in (n := c) (by omega), show (0 - b) = -b by omega, w64_in (n := -b) (by omega), form_val, Option.bind_some]
  · unfold r_spec_lvMake
    rw [red_self f1 (by omega) ⟨⟨u1, u2⟩, u3⟩, Option.bind_some, p2, Option.bind_some]
    simp only []
    rw [c2, Option.bind_some]
    simp only []
    rw [show (0 - r) = -r by omega, w64_in (n := -r) (by omega), w64_in (n := 2 * n) (by omega), dsc_mod, dsc_mod_val (by omega) (by omega), Option.bind_some, w64_in (n := 2 * v) (by omega), hc, Option.bind_some]
    simp only []
    have e1 : v * (2 * n) = 2 * (v * n) := by grind
    have e2 : Int.tdiv (v * (2 * n)) 2 = v * n := tdv (by decide) e1.symm
    rw [e2, w64_in (n := v * n) (by omega), ltI_eq]
    have e3 : (bif decide (v * n < hB + 2 * v * k) then sI (w64 (hB + 2 * v * k - v * (2 * n))) fun b11 => some b11 else some (hB + 2 * v * k)) = some b := by
      by_cases h : v * n < hB + 2 * v * k
      · rw [if_pos h] at win
        rw [decide_eq_true h, cond_true, sI_eq, e1, w64_in (by omega), win]
      · rw [if_neg h] at win
        rw [decide_eq_false h, cond_false, win]
    rw [e3, Option.bind_some, disc_eq, hdv f3, Option.bind_some, w64_in (n := 4 * v) (by omega), nz_ne (show 4 * v ≠ 0 by omega), Option.bind_some]
    simp only [sI_eq]
    rw [w64_in (n := b * b) (by omega), w64_in (n := b * b - D) (by omega), t3, w64_in (n := c) (by omega), show (0 - b) = -b by omega, w64_in (n := -b) (by omega)]
end Go.Proofs.Ytgeajejmikaniaa
