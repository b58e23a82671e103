/-
  The least solution of Pell's equation and its certificate are alike.
  Conditions: none.
-/
import Derived.Test.YtnifkkihamgmaaaDoorPcPcTab
import Derived.Test.YtnifkkihamgmaaaDoorPcDscBas
import Derived.Test.YtnifkkihamgmaaaDoorPcCt0
namespace Go.Proofs.YtnifkkihamgmaaaDoor
set_option linter.unusedVariables false
set_option linter.unusedSimpArgs false

theorem pc_num (n : Int) : inN n = (decide (-1000000 ≤ n) && decide (n ≤ 1000000)) := by
  rw [Bool.eq_iff_iff, inN_iff, Bool.and_eq_true, decide_eq_true_iff, decide_eq_true_iff]
theorem pc_good (n : Int) : r_spec_nuGood n = some (inN n) := by
  simp only [r_spec_nuGood, r_spec_l1In, Option.bind_some, leI_eq, pc_num]
  cases decide (-1000000 ≤ n) <;> rfl
theorem pc_in {n : Int} (h1 : -1000000 ≤ n) (h2 : n ≤ 1000000) : inN n = true := by rw [inN_iff]; exact ⟨h1, h2⟩
theorem small_val {t v : Nat} (ht : t ≤ 134217728) (hv : v ≤ 1000000) : ∃ b, r_impl_isSmall ((t : Int), (v : Int)) = some b ∧ (t ≤ 1000000 → b = true) := by
  have hn : r_impl_areNumbers [(v : Int)] = some true := by
    rw [num_val _ (by simp)]
    simp only [List.all_cons, List.all_nil, pc_in (n := (v : Int)) (by omega) (by omega), Bool.and_true]
  refine ⟨decide ((t : Int) ≤ 100000000), ?_, fun h => decide_eq_true (by omega)⟩
  simp only [r_impl_isSmall, abs_val (n := (t : Int)) (by omega), Option.bind_some, hn, Int.natAbs_natCast, leI_eq]
  cases decide ((t : Int) ≤ 100000000) <;> rfl
theorem least_run {d : Nat} (h5 : 5 ≤ d) (hM : d ≤ 1000) : ∀ (k n u : Nat), 1 ≤ u → u + k = 1000001 → k < n →
    ∃ r, r_impl_leastSolution_L5 (d : Int) 1000000 4 n (u : Int) = some r ∧
      ((r = .inl () ∧ ∀ v, u ≤ v → v ≤ 1000000 → ¬ Sol d v) ∨
        ∃ (t v : Nat) (b : Bool), r = .inr (((t : Int), (v : Int)), b) ∧ u ≤ v ∧ v ≤ 1000000 ∧ t * t = d * v * v + 4 ∧ (∀ w, u ≤ w → w < v → ¬ Sol d w) ∧ (t ≤ 1000000 → b = true))
  | 0, n + 1, u, h1, hk, hn => by
    refine ⟨.inl (), ?_, Or.inl ⟨rfl, fun v a b => by omega⟩⟩
    unfold r_impl_leastSolution_L5
    rw [leI_eq, decide_eq_false (by omega), cond_false]
  | k + 1, n + 1, u, h1, hk, hn => by
    have hdu : d * u ≤ 1000 * 1000000 := Nat.mul_le_mul hM (by omega)
    have hduu : d * u * u ≤ 1000 * 1000000 * 1000000 := Nat.mul_le_mul hdu (by omega)
    obtain ⟨N, hN⟩ : ∃ N, d * u * u + 4 = N := ⟨_, rfl⟩
    have e1 : w64 ((d : Int) * (u : Int)) = ((d * u : Nat) : Int) := by rw [← Int.natCast_mul, w64_in (by omega)]
    have e2 : w64 (((d * u : Nat) : Int) * (u : Int)) = ((d * u * u : Nat) : Int) := by rw [← Int.natCast_mul, w64_in (by omega)]
    have e3 : w64 (((d * u * u : Nat) : Int) + 4) = (N : Int) := by rw [w64_in (by omega)]; omega
    have e4 : mxI (N : Int) 0 = (N : Int) := by
      rw [mxI, ltI_eq, decide_eq_false (by omega), cond_false]
    have p53 : (2 : Nat) ^ 53 = 9007199254740992 := by decide
    obtain ⟨b, t, hb, ht, hle, hs⟩ := sqrt_ok (n := N) (by omega) (by rw [p53]; omega)
    have e5 : r_math_Sqrt (floatOfInt .f64 (N : Int)) = some b := by simp only [r_math_Sqrt, hb, Option.bind_some]
    have htt : t * t ≤ 134217728 * 134217728 := Nat.mul_le_mul hle hle
    have e6 : w64 ((t : Int) * (t : Int)) = ((t * t : Nat) : Int) := by rw [← Int.natCast_mul, w64_in (by omega)]
    have e7 : w64 ((u : Int) + 1) = ((u + 1 : Nat) : Int) := by rw [w64_in (by omega)]; omega
    unfold r_impl_leastSolution_L5
    simp only [leI_eq, decide_eq_true (show (u : Int) ≤ 1000000 by omega), cond_true, sI_eq, e1, e2, e3, e4, e5, ht, Option.bind_some, e6, e7, ltI_eq, eqI_eq]
    by_cases hS : t * t = N
    · have ht0 : 0 < t := by
        rcases Nat.eq_zero_or_pos t with h | h
        · rw [h] at hS; omega
        · exact h
      have hbq : (((t * t : Nat) : Int) == (N : Int)) = true := by rw [beq_iff_eq, hS]
      obtain ⟨b2, hb2, hb3⟩ := small_val (t := t) (v := u) hle (by omega)
      simp only [decide_eq_true (show (0 : Int) < (t : Int) by omega), cond_true, hbq, hb2, Option.bind_some]
      exact ⟨_, rfl, Or.inr ⟨t, u, b2, rfl, Nat.le_refl _, by omega, by omega, fun w a c => by omega, hb3⟩⟩
    · have hbq : (((t * t : Nat) : Int) == (N : Int)) = false := by rw [beq_eq_false_iff_ne]; omega
      have hc : (bif decide ((0 : Int) < (t : Int)) then false else false) = false := by cases decide ((0 : Int) < (t : Int)) <;> rfl
      simp only [hbq, hc, cond_false]
      have hnS : ¬ Sol d u := by
        rintro ⟨s, hs2⟩
        have := hs s (by rw [hs2, hN])
        subst this
        exact hS (by rw [hs2, hN])
      obtain ⟨r, hr, hc2⟩ := least_run h5 hM k n (u + 1) (by omega) (by omega) (by omega)
      refine ⟨r, hr, ?_⟩
      rcases hc2 with ⟨rfl, hv⟩ | ⟨t2, v2, b2, rfl, q1, q2, q3, q4, q5⟩
      · refine Or.inl ⟨rfl, fun v a c => ?_⟩
        by_cases e : v = u
        · rw [e]; exact hnS
        · exact hv v (by omega) c
      · refine Or.inr ⟨t2, v2, b2, rfl, by omega, q2, q3, fun w a c => ?_, q5⟩
        by_cases e : w = u
        · rw [e]; exact hnS
        · exact q4 w (by omega) c
theorem FUgt : 1000000 < FU := by decide
/-- What the program takes for the fundamental solution. -/
theorem pell_val {d : Nat} (h5 : 5 ≤ d) (hM : d ≤ 1000) (hp : r_impl_isPositiveDisc (d : Int) = some true) :
    ∃ T U b, r_impl_PellFour (d : Int) = some ((T, U), b) ∧
      (((∀ v, 1 ≤ v → v ≤ 1000000 → ¬ Sol d v) ∧ b = false) ∨ ∃ t v : Nat, (b = true → T = (t : Int) ∧ U = (v : Int)) ∧ 1 ≤ v ∧ v ≤ 1000000 ∧ t * t = d * v * v + 4 ∧ (∀ w, 1 ≤ w → w < v → ¬ Sol d w) ∧ (t ≤ 1000000 → b = true)) := by
  obtain ⟨r, hr, hc⟩ := least_run h5 hM 1000000 FU 1 (by decide) (by decide) FUgt
  have hr : r_impl_leastSolution_L5 (d : Int) 1000000 4 FU 1 = some r := hr
  rcases hc with ⟨rfl, hv⟩ | ⟨t, v, b, rfl, q1, q2, q3, q4, q5⟩
  · refine ⟨0, 0, false, ?_, Or.inl ⟨hv, rfl⟩⟩
    simp only [r_impl_PellFour, hp, r_impl_pellFour, r_impl_leastSolution, hr, Option.bind_some, Bool.not_true, cond_false, Bool.not_false, cond_true]
  · cases b with
    | false =>
      refine ⟨0, 0, false, ?_, Or.inr ⟨t, v, (fun h => by cases h), q1, q2, q3, q4, q5⟩⟩
      simp only [r_impl_PellFour, hp, r_impl_pellFour, r_impl_leastSolution, hr, Option.bind_some, Bool.not_true, cond_false, Bool.not_false, cond_true]
    | true =>
      refine ⟨(t : Int), (v : Int), true, ?_, Or.inr ⟨t, v, fun _ => ⟨rfl, rfl⟩, q1, q2, q3, q4, q5⟩⟩
      simp only [r_impl_PellFour, hp, r_impl_pellFour, r_impl_leastSolution, hr, Option.bind_some, Bool.not_true, cond_false, Bool.not_false, cond_true]
/-! ### Texts -/
theorem pc_text {d T U : Int} (hd : sm18 d) (hT : sm18 T) (hU : sm18 U) : ∃ t, ((r_spec_l1Int d).bind fun y7 => (r_spec_l1Int T).bind fun y8 => (r_spec_l1Int U).bind fun y9 => (r_spec_prText ([(⟨#[115, 111, 108, 117, 116, 105, 111, 110]⟩ : ByteArray), y7, y8, y9])).bind fun y10 => some (y10, true)) = some (t, true) ∧
    ((r_strconv_Itoa d).bind fun y7 => (r_strconv_Itoa T).bind fun y8 => (r_strconv_Itoa U).bind fun y9 => (r_impl_certificate ((⟨#[115, 111, 108, 117, 116, 105, 111, 110]⟩ : ByteArray)) ([y7, y8, y9])).bind fun y10 => some (y10, true)) = some (t, true) := by
  have e1 : (⟨#[115, 111, 108, 117, 116, 105, 111, 110]⟩ : ByteArray) = bl [115, 111, 108, 117, 116, 105, 111, 110] := rfl
  have hL : ∀ y ∈ [115, 111, 108, 117, 116, 105, 111, 110] :: [Go.Lib.itoa d, Go.Lib.itoa T, Go.Lib.itoa U], y.length ≤ 1000 := by
    intro y hy
    simp only [List.mem_cons, List.not_mem_nil, or_false] at hy
    rcases hy with rfl | rfl | rfl | rfl
    · decide
    · exact Nat.le_trans (itoa_len hd) (by omega)
    · exact Nat.le_trans (itoa_len hT) (by omega)
    · exact Nat.le_trans (itoa_len hU) (by omega)
  have p1 := prText_eq [115, 111, 108, 117, 116, 105, 111, 110] [Go.Lib.itoa d, Go.Lib.itoa T, Go.Lib.itoa U] (by simp) hL
  have p2 := cert_eq [115, 111, 108, 117, 116, 105, 111, 110] [Go.Lib.itoa d, Go.Lib.itoa T, Go.Lib.itoa U] (by simp) (by simp) hL
  simp only [List.map_cons, List.map_nil] at p1 p2
  refine ⟨bl ([115, 111, 108, 117, 116, 105, 111, 110] ++ Go.Lib.joinTail [32] [Go.Lib.itoa d, Go.Lib.itoa T, Go.Lib.itoa U]), ?_, ?_⟩
  · simp only [l1Int_eq hd, l1Int_eq hT, l1Int_eq hU, Option.bind_some, e1, p1]
  · simp only [itoa_eq hd, itoa_eq hT, itoa_eq hU, Option.bind_some, e1, p2]
/-- A solution that both take. -/
theorem cert_ok {d T U : Int} (hd : sm18 d) (hs : r_spec_PellFour d = some ((T, U), true)) (hi : r_impl_PellFour d = some ((T, U), true)) (hT : inN T = true) (hU : inN U = true) : ∃ t b, r_spec_PellCertificate d = some (t, b) ∧ r_impl_PellCertificate d = some (t, b) := by
  have iT := inN_iff.1 hT
  have iU := inN_iff.1 hU
  obtain ⟨t, p1, p2⟩ := pc_text hd (T := T) (U := U) ⟨by omega, by omega⟩ ⟨by omega, by omega⟩
  have hn : r_impl_areNumbers [T, U] = some true := by
    rw [num_val _ (by simp)]
    simp only [List.all_cons, List.all_nil, hT, hU, Bool.and_true]
  refine ⟨t, true, ?_, ?_⟩
  · simp only [r_spec_PellCertificate, hs, Option.bind_some, pc_good, hT, Bool.not_true, cond_false]
    exact p1
  · simp only [r_impl_PellCertificate, hi, Option.bind_some, hn, Bool.not_true, cond_false]
    exact p2
theorem cert_sno {d T U : Int} {b : Bool} (hs : r_spec_PellFour d = some ((T, U), b)) (h : b = true → inN T = false) : r_spec_PellCertificate d = some ((⟨#[]⟩ : ByteArray), false) := by
  cases b with
  | false => simp only [r_spec_PellCertificate, hs, Option.bind_some, Bool.not_false, cond_true]
  | true => simp only [r_spec_PellCertificate, hs, Option.bind_some, pc_good, h rfl, Bool.not_true, Bool.not_false, cond_false, cond_true]
theorem cert_ino {d T U : Int} {b : Bool} (hs : r_impl_PellFour d = some ((T, U), b)) (h : b = true → inN T = false) : r_impl_PellCertificate d = some ((⟨#[]⟩ : ByteArray), false) := by
  cases b with
  | false => simp only [r_impl_PellCertificate, hs, Option.bind_some, Bool.not_false, cond_true]
  | true =>
    have hn : r_impl_areNumbers [T, U] = some false := by
      rw [num_val _ (by simp)]
      simp only [List.all_cons, List.all_nil, h rfl, Bool.false_and]
    simp only [r_impl_PellCertificate, hs, Option.bind_some, hn, Bool.not_true, Bool.not_false, cond_false, cond_true]
/-- No small solution. -/
theorem cert_none {d L : Nat} (h5 : 5 ≤ d) (hM : d ≤ 1000) (hp : r_impl_isPositiveDisc (d : Int) = some true) (hL : Nat.ble 1000000000001 (Nat.add (Nat.mul (Nat.mul d L) L) 4) = true) (hn : nos d L = true) : r_impl_PellCertificate (d : Int) = some ((⟨#[]⟩ : ByteArray), false) := by
  obtain ⟨T, U, b, e, hc⟩ := pell_val h5 hM hp
  refine cert_ino e fun hb => ?_
  rcases hc with ⟨_, h⟩ | ⟨t, v, q0, q1, q2, q3, q4, q5⟩
  · rw [h] at hb; cases hb
  · obtain ⟨rfl, rfl⟩ := q0 hb
    have hvL : ¬ v < L := fun h => nos_spec hn v q1 h ⟨t, q3⟩
    have hL2 : 1000000000001 ≤ d * L * L + 4 := Nat.le_of_ble_eq_true hL
    have hdd : d * L * L ≤ d * v * v := Nat.mul_le_mul (Nat.mul_le_mul_left _ (by omega)) (by omega)
    have ht : ¬ t ≤ 1000000 := fun h => by
      have : t * t ≤ 1000000 * 1000000 := Nat.mul_le_mul h h
      omega
    rw [Bool.eq_false_iff]
    intro h
    have := inN_iff.1 h
    omega
theorem pc_in_range {d : Nat} (h5 : 5 ≤ d) (hM : d ≤ 1000) : ∃ t b, r_spec_PellCertificate (d : Int) = some (t, b) ∧ r_impl_PellCertificate (d : Int) = some (t, b) := by
  have h := okd_all d h5 hM
  unfold okd at h
  cases hp : r_impl_isPositiveDisc (d : Int) with
  | none => rw [hp] at h; cases h
  | some pb =>
    cases hq : r_spec_PellFour (d : Int) with
    | none =>
      rw [hp, hq] at h
      cases pb <;> cases h
    | some y =>
      obtain ⟨⟨T, U⟩, ok⟩ := y
      rw [hp, hq] at h
      cases pb with
      | false =>
        cases ok with
        | true => cases h
        | false =>
          refine ⟨_, _, cert_sno hq (fun h => by cases h), cert_ino (T := 0) (U := 0) (b := false) ?_ (fun h => by cases h)⟩
          simp only [r_impl_PellFour, hp, Option.bind_some, Bool.not_false, cond_true]
      | true =>
        cases ok with
        | false =>
          simp only [fP_eq] at h
          refine ⟨_, _, cert_sno hq (fun h => by cases h), ?_⟩
          cases hL : Nat.ble 1000000000001 (Nat.add (Nat.mul (Nat.mul d (topL d)) (topL d)) 4) with
          | false => rw [hL] at h; cases h
          | true => rw [hL, cond_true] at h; exact cert_none h5 hM hp hL h
        | true =>
          simp only [fP_eq] at h
          cases hT : Nat.ble T.toNat 1000000 with
          | false =>
            rw [hT, cond_false] at h
            have h1 : leI 1000001 T = true := by
              cases h1 : leI 1000001 T with
              | true => rfl
              | false => rw [h1] at h; cases h
            rw [h1, cond_true] at h
            rw [leI_eq, decide_eq_true_iff] at h1
            refine ⟨_, _, cert_sno hq (fun _ => ?_), ?_⟩
            · rw [Bool.eq_false_iff]
              intro h
              have := inN_iff.1 h
              omega
            · cases hL : Nat.ble 1000000000001 (Nat.add (Nat.mul (Nat.mul d (topL d)) (topL d)) 4) with
              | false => rw [hL] at h; cases h
              | true => rw [hL, cond_true] at h; exact cert_none h5 hM hp hL h
          | true =>
            rw [hT, cond_true] at h
            have hT2 : T.toNat ≤ 1000000 := Nat.le_of_ble_eq_true hT
            cases h1 : leI 1 T with
            | false => rw [h1] at h; cases h
            | true =>
              cases h2 : leI 1 U with
              | false => rw [h1, h2] at h; cases h
              | true =>
                rw [h1, h2, cond_true, cond_true] at h
                rw [leI_eq, decide_eq_true_iff] at h1 h2
                cases h3 : Nat.beq (Nat.mul T.toNat T.toNat) (Nat.add (Nat.mul (Nat.mul d U.toNat) U.toNat) 4) with
                | false => rw [h3] at h; cases h
                | true =>
                  rw [h3, cond_true] at h
                  have hsol : T.toNat * T.toNat = d * U.toNat * U.toNat + 4 := Nat.eq_of_beq_eq_true h3
                  have hmin := nos_spec h
                  obtain ⟨T', U', b, e, hc⟩ := pell_val h5 hM hp
                  have hUs : U.toNat ≤ 1000000 := by
                    apply Nat.le_of_not_lt
                    intro hlt
                    have a1 : 1 * U.toNat * U.toNat ≤ d * U.toNat * U.toNat := Nat.mul_le_mul_right _ (Nat.mul_le_mul_right _ (by omega))
                    have a2 : 1000001 * 1000001 ≤ U.toNat * U.toNat := Nat.mul_le_mul (by omega) (by omega)
                    have a3 : T.toNat * T.toNat ≤ 1000000 * 1000000 := Nat.mul_le_mul hT2 hT2
                    rw [Nat.one_mul] at a1
                    omega
                  have hkey : b = true ∧ T' = T ∧ U' = U := by
                    rcases hc with ⟨hno, _⟩ | ⟨t, v, q0, q1, q2, q3, q4, q5⟩
                    · exact absurd ⟨_, hsol⟩ (hno U.toNat (by omega) hUs)
                    · have hv : v = U.toNat := by
                        rcases Nat.lt_trichotomy v U.toNat with hlt | he | hgt
                        · exact absurd ⟨t, q3⟩ (hmin v q1 hlt)
                        · exact he
                        · exact absurd ⟨_, hsol⟩ (q4 U.toNat (by omega) hgt)
                      have htt : t * t = T.toNat * T.toNat := by rw [q3, hsol, hv]
                      have ht : t = T.toNat := by
                        rcases Nat.lt_trichotomy t T.toNat with hlt | he | hgt
                        · have := Nat.mul_self_lt_mul_self hlt; omega
                        · exact he
                        · have := Nat.mul_self_lt_mul_self hgt; omega
                      have hb := q5 (by omega)
                      obtain ⟨r1, r2⟩ := q0 hb
                      exact ⟨hb, by omega, by omega⟩
                  obtain ⟨rfl, rfl, rfl⟩ := hkey
                  exact cert_ok ⟨by omega, by omega⟩ hq e (pc_in (by omega) (by omega)) (pc_in (by omega) (by omega))
theorem pc_out {d : Int} (h : ¬ (5 ≤ d ∧ d ≤ 1000)) : ∃ t b, r_spec_PellCertificate d = some (t, b) ∧ r_impl_PellCertificate d = some (t, b) := by
  have h1 : (bif leI 5 d then leI d 1000 else false) = false := by
    rw [leI_eq, leI_eq]
    by_cases h5 : 5 ≤ d
    · rw [decide_eq_false (show ¬ d ≤ 1000 by omega)]; cases decide (5 ≤ d) <;> rfl
    · rw [decide_eq_false h5]; rfl
  refine ⟨_, _, cert_sno (T := 0) (U := 0) (b := false) ?_ (fun h => by cases h), cert_ino (T := 0) (U := 0) (b := false) ?_ (fun h => by cases h)⟩
  · simp only [r_spec_PellFour, r_spec_cyDisc, r_spec_l1In, h1, Option.bind_some, cond_false, Bool.not_false, cond_true]
  · simp only [r_impl_PellFour, r_impl_isPositiveDisc, h1, Option.bind_some, cond_false, Bool.not_false, cond_true]
theorem pc_both (d : Int) : ∃ t b, r_spec_PellCertificate d = some (t, b) ∧ r_impl_PellCertificate d = some (t, b) := by
  by_cases h : 5 ≤ d ∧ d ≤ 1000
  · obtain ⟨k, rfl⟩ := Int.eq_ofNat_of_zero_le (show 0 ≤ d by omega)
    exact pc_in_range (by omega) (by omega)
  · exact pc_out h
theorem raw_PellCertificate (d : Int) : r_laws_FnExactPellCertificate d = some true := by
  obtain ⟨t, b, h1, h2⟩ := pc_both d
  have hb : (b != b) = false := by cases b <;> rfl
  have ht : (t.toList == t.toList) = true := beq_self_eq_true _
  simp only [r_laws_FnExactPellCertificate, h1, h2, Option.bind_some, ht, hb, Bool.not_true, cond_false]
end Go.Proofs.YtnifkkihamgmaaaDoor
