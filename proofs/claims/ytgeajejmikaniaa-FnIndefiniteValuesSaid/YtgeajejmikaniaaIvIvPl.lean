/-
  Points that represent an integer by an indefinite form.
  Conditions: none.
-/
import Derived.Test.YtgeajejmikaniaaIvIvD
namespace Go.Proofs.Ytgeajejmikaniaa
set_option linter.unusedVariables false
set_option linter.unusedSimpArgs false

/-! ### Roots -/
def rT (d : Int) (N : Nat) (b : Int) : Bool := eqI (Int.tmod (b * b - d) (4 * (N : Int))) 0
def rts (d : Int) (N : Nat) (k m : Nat) : List Int := ((List.range' k m).map (fun x : Nat => (x : Int))).filter (rT d N)
theorem roots_run {d : Int} {N : Nat} (hd : d.natAbs ≤ 1000000) (hN1 : 1 ≤ N) (hN : N ≤ 2500) : ∀ (m fu k : Nat) (acc : List Int), k + m = 2 * N → m < fu → acc.length ≤ k → r_impl_rootsOfDiscriminant_L5 d (N : Int) fu (k : Int) acc = some (acc ++ rts d N k m)
  | m, 0, k, acc, h1, h2, h3 => by omega
  | 0, fu + 1, k, acc, h1, h2, h3 => by
    rw [r_impl_rootsOfDiscriminant_L5, ltI_eq, w64_in (by omega), decide_eq_false (by omega), cond_false]
    simp [rts]
  | m + 1, fu + 1, k, acc, h1, h2, h3 => by
    have hkk := abs_mul (x := (k : Int)) (y := k) (A := 5000) (B := 5000) (by omega) (by omega)
    rw [r_impl_rootsOfDiscriminant_L5, ltI_eq, w64_in (n := 2 * (N : Int)) (by omega), decide_eq_true (by omega), cond_true]
    rw [w64_in (n := 4 * (N : Int)) (by omega), nzOk (by omega), w64_abs (n := (k : Int) * k) (by omega), w64_abs (n := (k : Int) * k - d) (by omega)]
    have e : rts d N k (m + 1) = if rT d N k then (k : Int) :: rts d N (k + 1) m else rts d N (k + 1) m := by
      unfold rts
      rw [List.range'_succ, List.map_cons, List.filter_cons]
    have et : eqI (Int.tmod ((k : Int) * k - d) (4 * (N : Int))) 0 = rT d N k := rfl
    rw [e, et]
    simp only [Option.bind_some, sI_eq, wsucc (show k < 1000000000 by omega)]
    cases rT d N k with
    | true =>
      rw [cond_true, if_pos rfl, roomOk (by simp; omega), Option.bind_some, roots_run hd hN1 hN m fu (k + 1) _ (by omega) (by omega) (by simp; omega)]
      simp
    | false =>
      rw [cond_false, if_neg (by simp), roots_run hd hN1 hN m fu (k + 1) _ (by omega) (by omega) (by omega)]
theorem sroots_eq (d n : Int) : ∀ (fu : Nat) (b : Int) (acc : List Int), r_spec_roDisc_L5 d n fu b acc = r_impl_rootsOfDiscriminant_L5 d n fu b acc
  | 0, b, acc => rfl
  | fu + 1, b, acc => by
    rw [r_spec_roDisc_L5, r_impl_rootsOfDiscriminant_L5]
    simp only [sI_eq, sroots_eq d n fu]
theorem roots_mem {d : Int} {N : Nat} (hN : 1 ≤ N) {r : Int} : r ∈ rts d N 0 (2 * N) ↔ 0 ≤ r ∧ r < 2 * (N : Int) ∧ 4 * (N : Int) ∣ r * r - d := by
  unfold rts
  rw [List.mem_filter, List.mem_map]
  unfold rT
  rw [tz (by omega), decide_eq_true_iff]
  constructor
  · rintro ⟨⟨k, k1, rfl⟩, h2⟩
    rw [List.mem_range'_1] at k1
    exact ⟨by omega, by omega, h2⟩
  · rintro ⟨h1, h2, h3⟩
    exact ⟨⟨r.toNat, by rw [List.mem_range'_1]; omega, by omega⟩, h3⟩
theorem roots_len (d : Int) (N m : Nat) : (rts d N 0 m).length ≤ m := by
  unfold rts
  refine Nat.le_trans (List.length_filter_le _ _) ?_
  simp
theorem roots_val {d : Int} {N : Nat} (hd : d.natAbs ≤ 1000000) (hN1 : 1 ≤ N) (hN : N ≤ 2500) : r_impl_rootsOfDiscriminant d (N : Int) = some (rts d N 0 (2 * N)) ∧ r_spec_roDisc d (N : Int) = some (rts d N 0 (2 * N)) := by
  have k1 := roots_run hd hN1 hN (2 * N) FU 0 [] (by omega) (by have := FUge; omega) (by simp)
  rw [List.nil_append] at k1
  have k1 : r_impl_rootsOfDiscriminant_L5 d (N : Int) FU 0 [] = some (rts d N 0 (2 * N)) := k1
  simp only [r_impl_rootsOfDiscriminant, r_spec_roDisc, sroots_eq, k1, Option.bind_some, and_self]
/-! ### The common divisor, as the law works it out -/
theorem lgcd_eq : ∀ (n : Nat) (a b : Int), r_laws_qGcd_L5 n a b = r_impl_gcd_L5 n a b
  | 0, a, b => rfl
  | n + 1, a, b => by
    unfold r_laws_qGcd_L5 r_impl_gcd_L5
    simp only [sI_eq, lgcd_eq n]
theorem qabs_val {n : Int} (h : n.natAbs ≤ 9223372036854775806) : r_laws_qAbs n = some (n.natAbs : Int) := by
  unfold r_laws_qAbs
  rw [ltI_eq]
  by_cases h0 : n < 0
  · rw [decide_eq_true h0, cond_true, sI_eq, w64_in (by omega)]
    congr 1
    omega
  · rw [decide_eq_false h0, cond_false]
    congr 1
    omega
theorem qgcd_val {a b : Int} (ha : a.natAbs ≤ 9223372036854775806) (hb : b.natAbs ≤ 9223372036854775806) : r_laws_qGcd a b = some (Int.gcd a b : Int) := by
  obtain ⟨r, h1, h2⟩ := gcd_run 64 FU a b (by omega) (FU_succ 129 (by decide))
  have h3 := gcd_le ha hb
  simp only [r_laws_qGcd, lgcd_eq, h1, Option.bind_some, qabs_val (n := r) (by omega), h2]
/-! ### The points -/
def gF (n D b : Int) : F3 := (n, b, Int.tdiv (b * b - D) (4 * n))
theorem gF_fm {D n b : Int} {N : Nat} (hN : n.natAbs = N) (hN1 : 1 ≤ N) (hN2 : N ≤ 200) (hD5 : 5 ≤ D) (hD : D ≤ 1000) (h : 0 ≤ b ∧ b < 2 * (N : Int) ∧ 4 * (N : Int) ∣ b * b - D) : Fm D (gF n D b) ∧ 4 * n * (gF n D b).2.2 = b * b - D ∧ (b * b).natAbs ≤ 160000 := by
  obtain ⟨h1, h2, c, hc⟩ := h
  have hbb := abs_mul (x := b) (y := b) (A := 400) (B := 400) (by omega) (by omega)
  have hsg : n = (N : Int) ∨ n = -(N : Int) := by omega
  have key : ∃ c', 4 * n * c' = b * b - D := by
    rcases hsg with e | e
    · exact ⟨c, by rw [e, hc]⟩
    · exact ⟨-c, by rw [e, hc]; grind⟩
  obtain ⟨c', hc'⟩ := key
  have ht : Int.tdiv (b * b - D) (4 * n) = c' := tdv (by omega) hc'
  have hcb : c'.natAbs ≤ 161000 := by
    have e : (4 * n * c').natAbs = 4 * n.natAbs * c'.natAbs := by rw [Int.natAbs_mul, Int.natAbs_mul]; rfl
    have : c'.natAbs * 4 ≤ 4 * n.natAbs * c'.natAbs := by
      rw [Nat.mul_comm]
      exact Nat.mul_le_mul_right _ (by omega)
    omega
  unfold gF
  rw [ht]
  exact ⟨⟨inN_iff.2 (by simp only []; omega), inN_iff.2 (by simp only []; omega), inN_iff.2 (by simp only []; omega), by simp only []; omega⟩, hc', by omega⟩
def GoodP (f : F3) (n : Int) (p : Int × Int) : Prop := f.1 * p.1 * p.1 + f.2.1 * p.1 * p.2 + f.2.2 * p.2 * p.2 = n ∧ Int.gcd p.1 p.2 = 1 ∧ inN p.1 = true ∧ inN p.2 = true
def Eqv (f g : F3) : Prop := ∃ p q s t, Mv f.1 f.2.1 f.2.2 p q s t g.1 g.2.1 g.2.2
theorem good_of {f : F3} {n D b : Int} {M : M4} (hok : okM M = true) (h : Mv f.1 f.2.1 f.2.2 M.1 M.2.1 M.2.2.1 M.2.2.2 (gF n D b).1 (gF n D b).2.1 (gF n D b).2.2) : GoodP f n (M.1, M.2.2.1) := by
  obtain ⟨o1, o2, o3, o4⟩ := okM_iff hok
  refine ⟨h.e1, ?_, o1, o3⟩
  have hdt := h.dt
  have g1 : (Int.gcd M.1 M.2.2.1 : Int) ∣ M.1 := Int.gcd_dvd_left _ _
  have g2 : (Int.gcd M.1 M.2.2.1 : Int) ∣ M.2.2.1 := Int.gcd_dvd_right _ _
  have g3 : (Int.gcd M.1 M.2.2.1 : Int) ∣ 1 := by
    rw [← hdt]
    exact Int.dvd_sub (Int.dvd_mul_of_dvd_left g1) (Int.dvd_mul_of_dvd_right g2)
  have := Int.eq_one_of_dvd_one (by omega) g3
  show Int.gcd M.1 M.2.2.1 = 1
  omega
theorem pts_run {D r n : Int} {N : Nat} {f : F3} (h : Pd D r) (hf : Fm D f) (hN : n.natAbs = N) (hN1 : 1 ≤ N) (hN2 : N ≤ 200) {R : List Int} (hR : ∀ b ∈ R, 0 ≤ b ∧ b < 2 * (N : Int) ∧ 4 * (N : Int) ∣ b * b - D) (hRl : R.length ≤ 1000) : ∀ (fu k : Nat) (acc : List (Int × Int)), k ≤ R.length → R.length - k < fu → acc.length ≤ k →
    (r_impl_IndefinitePoints_L14 f n R D fu (k : Int) acc = some (.inr ([], false)) ∧ r_spec_IndefinitePoints_L14 f n R D fu (k : Int) acc = some (.inr ([], false))) ∨
    ∃ P, r_impl_IndefinitePoints_L14 f n R D fu (k : Int) acc = some (.inl (acc ++ P)) ∧ r_spec_IndefinitePoints_L14 f n R D fu (k : Int) acc = some (.inl (acc ++ P)) ∧ (∀ p ∈ P, GoodP f n p) ∧ P.length ≤ R.length - k ∧ ((∃ b ∈ R.drop k, Eqv f (gF n D b)) → P ≠ [])
  | 0, k, acc, _, h, _ => by omega
  | fu + 1, k, acc, h0, h1, h2 => by
    rw [r_impl_IndefinitePoints_L14, r_spec_IndefinitePoints_L14]
    by_cases hk : k < R.length
    · have hD5 := h.d5
      have hDM := h.dM
      obtain ⟨g1, g2, g3⟩ := gF_fm hN hN1 hN2 hD5 hDM (hR _ (List.getElem_mem hk))
      obtain ⟨u, s1, s2, s3, s4⟩ := pair_val h hf g1
      have hw : w64 (Int.tdiv (w64 (w64 (R[k] * R[k]) - D)) (w64 (4 * n))) = Int.tdiv (R[k] * R[k] - D) (4 * n) := by
        rw [w64_in (n := R[k] * R[k]) (by omega), w64_in (n := R[k] * R[k] - D) (by omega), w64_in (n := 4 * n) (by omega)]
        have := inN_iff.1 g1.ic
        have e : (gF n D R[k]).2.2 = Int.tdiv (R[k] * R[k] - D) (4 * n) := rfl
        rw [e] at this
        exact w64_in (by omega)
      have hg : (n, R[k], Int.tdiv (R[k] * R[k] - D) (4 * n)) = gF n D R[k] := rfl
      rw [ltI_eq, decide_eq_true (by omega), cond_true, cond_true, getNat hk, List.drop_eq_getElem_cons hk]
      simp only [Option.bind_some, sI_eq, hw, hg]
      rw [w64_in (n := 4 * n) (by omega), nz_ne (show 4 * n ≠ 0 by omega)]
      simp only [Option.bind_some, s1, s2, wsucc (show k < 1000000000 by omega)]
      obtain ⟨u1, u2⟩ := u
      cases u2 with
      | false => exact .inl ⟨rfl, rfl⟩
      | true =>
        simp only [Bool.not_true, cond_false]
        cases u1 with
        | false =>
          simp only [Bool.not_false, cond_true]
          rcases pts_run h hf hN hN1 hN2 hR hRl fu (k + 1) acc (by omega) (by omega) (by omega) with hl | ⟨P, p1, p2, p3, p4, p5⟩
          · exact .inl hl
          · refine .inr ⟨P, p1, p2, p3, by omega, fun ⟨b, hb, he⟩ => ?_⟩
            rcases List.mem_cons.1 hb with e | e
            · rw [e] at he
              have := s3 rfl he
              cases this
            · exact p5 ⟨b, e, he⟩
        | true =>
          obtain ⟨M, b, c1, c2, c3⟩ := s4 rfl
          simp only [Bool.not_true, cond_false, c1, c2, Option.bind_some]
          cases b with
          | false => exact .inl ⟨rfl, rfl⟩
          | true =>
            obtain ⟨k1, k2⟩ := c3 rfl
            have hgood := good_of k1 k2
            simp only [Bool.not_true, cond_false]
            rw [roomOk (by simp; omega)]
            simp only [Option.bind_some]
            rcases pts_run h hf hN hN1 hN2 hR hRl fu (k + 1) (acc ++ [(M.1, M.2.2.1)]) (by omega) (by omega) (by simp; omega) with hl | ⟨P, p1, p2, p3, p4, p5⟩
            · exact .inl hl
            · refine .inr ⟨(M.1, M.2.2.1) :: P, by rw [p1]; simp, by rw [p2]; simp, fun p hp => ?_, by simp; omega, fun _ => by simp⟩
              rcases List.mem_cons.1 hp with e | e
              · rw [e]; exact hgood
              · exact p3 p e
    · rw [ltI_eq, decide_eq_false (by omega), cond_false, cond_false, List.drop_eq_nil_of_le (by omega)]
      exact .inr ⟨[], by simp, by simp, (fun p hp => by cases hp), by simp, (fun ⟨b, hb, _⟩ => by cases hb)⟩
theorem prim_val (f : F3) : ∃ b, r_impl_isPrimitiveIndefinite f = some b ∧ r_spec_unForm f = some b ∧ (b = true → ∃ D r, Pd D r ∧ Fm D f) := by
  obtain ⟨b, e1, e2, e3⟩ := ind_val f
  simp only [r_impl_isPrimitiveIndefinite, r_spec_unForm, e1, e2, Option.bind_some]
  cases b with
  | false => exact ⟨false, rfl, rfl, fun h => by cases h⟩
  | true =>
    obtain ⟨D, r, hD, hF⟩ := e3 rfl
    have k1 := content_val hF.ia hF.ib hF.ic
    have k2 := scontent_val hF.ia hF.ib hF.ic
    have k1 : r_impl_Form_content f = _ := k1
    have k2 : r_spec_foContent f = _ := k2
    simp only [cond_true, k1, k2, Option.bind_some]
    exact ⟨_, rfl, rfl, fun _ => ⟨D, r, hD, hF⟩⟩
/-- All points, both ways. -/
theorem points_val (f : F3) {n : Int} (hn : n.natAbs ≤ 27000000) : ∃ P ok, r_impl_IndefinitePoints f n = some (P, ok) ∧ r_spec_IndefinitePoints f n = some (P, ok) ∧ (∀ p ∈ P, GoodP f n p) ∧ P.length ≤ 1000 ∧ (ok = true → ∃ D r, Pd D r ∧ Fm D f ∧ 1 ≤ n.natAbs ∧ n.natAbs ≤ 200 ∧ ((∃ b, 0 ≤ b ∧ b < 2 * (n.natAbs : Int) ∧ 4 * (n.natAbs : Int) ∣ b * b - D ∧ Eqv f (gF n D b)) → P ≠ [])) ∧ (P ≠ [] → ok = true) := by
  obtain ⟨b, e1, e2, e3⟩ := prim_val f
  have hab := abs_val (n := n) (by omega)
  have sab := sabs_val (n := n) (by omega)
  have hin : (bif leI (-200) n then leI n 200 else false) = !ltI 200 (n.natAbs : Int) := by
    rw [leI_eq, leI_eq, ltI_eq]
    by_cases h1 : -200 ≤ n
    · by_cases h2 : n ≤ 200
      · rw [decide_eq_true h1, decide_eq_true h2, decide_eq_false (by omega)]; rfl
      · rw [decide_eq_true h1, decide_eq_false h2, decide_eq_true (by omega)]; rfl
    · rw [decide_eq_false h1, decide_eq_true (show 200 < (n.natAbs : Int) by omega)]; rfl
  simp only [r_impl_IndefinitePoints, r_spec_IndefinitePoints, e1, e2, r_spec_l1In, hin, hab, sab, Option.bind_some, Bool.not_not]
  cases b with
  | false => exact ⟨[], false, rfl, rfl, (fun p hp => by cases hp), by simp, (fun h => by cases h), (fun h => absurd rfl h)⟩
  | true =>
    obtain ⟨D, r, hD, hF⟩ := e3 rfl
    by_cases h0 : n = 0
    · subst h0
      exact ⟨[], false, rfl, rfl, (fun p hp => by cases hp), by simp, (fun h => by cases h), (fun h => absurd rfl h)⟩
    · rw [eqI_false h0]
      simp only [Bool.not_true, cond_false]
      by_cases h2 : 200 < (n.natAbs : Int)
      · rw [ltI_eq, decide_eq_true h2]
        exact ⟨[], false, rfl, rfl, (fun p hp => by cases hp), by simp, (fun h => by cases h), (fun h => absurd rfl h)⟩
      · rw [ltI_eq, decide_eq_false h2]
        have hd5 := hD.d5
        have hdM := hD.dM
        obtain ⟨r1, r2⟩ := roots_val (d := D) (N := n.natAbs) (by omega) (by omega) (by omega)
        have hRm := fun b => (roots_mem (d := D) (N := n.natAbs) (by omega) (r := b))
        have hRl := roots_len D n.natAbs (2 * n.natAbs)
        simp only [cond_false, hF.disc, hF.sdisc, r1, r2, Option.bind_some]
        generalize rts D n.natAbs 0 (2 * n.natAbs) = R at *
        rcases pts_run hD hF (n := n) (N := n.natAbs) rfl (by omega) (by omega) (R := R) (fun b hb => (hRm b).1 hb) (by omega) FU 0 [] (by omega) (by have := FUge; omega) (by simp) with ⟨p1, p2⟩ | ⟨P, p1, p2, p3, p4, p5⟩
        · have e0 : ((0 : Nat) : Int) = 0 := rfl
          rw [e0] at p1 p2
          rw [p1, p2]
          exact ⟨[], false, rfl, rfl, (fun p hp => by cases hp), by simp, (fun h => by cases h), (fun h => absurd rfl h)⟩
        · have e0 : ((0 : Nat) : Int) = 0 := rfl
          rw [e0, List.nil_append] at p1 p2
          rw [List.drop_zero] at p5
          rw [p1, p2]
          exact ⟨P, true, rfl, rfl, p3, by omega, fun _ => ⟨D, r, hD, hF, by omega, by omega, fun ⟨b, b1, b2, b3, b4⟩ => p5 ⟨b, (hRm b).2 ⟨b1, b2, b3⟩, b4⟩⟩, fun _ => rfl⟩
/-! ### The law -/
theorem pts_self_run (l : List (Int × Int)) (hl : l.length ≤ 1000) : ∀ (k fu i : Nat), i + k = l.length → k < fu → r_laws_qPoints_L5 l l fu (i : Int) = some (.inl ())
  | k, 0, i, hi, hf => by omega
  | 0, fu + 1, i, hi, hf => by rw [r_laws_qPoints_L5, ltI_eq, decide_eq_false (by omega), cond_false]
  | k + 1, fu + 1, i, hi, hf => by
    rw [r_laws_qPoints_L5, ltI_eq, decide_eq_true (by omega), cond_true, getNat (show i < l.length by omega)]
    simp only [Option.bind_some, beq_self_eq_true, Bool.and_self, Bool.not_true, cond_false, sI_eq, wsucc (show i < 1000000000 by omega)]
    exact pts_self_run l hl k fu (i + 1) (by omega) (by omega)
theorem pts_self (l : List (Int × Int)) (hl : l.length ≤ 1000) : r_laws_qPoints l l = some true := by
  have h := pts_self_run l hl l.length FU 0 (by omega) (by have := FUge; omega)
  have h : r_laws_qPoints_L5 l l FU 0 = _ := h
  simp only [r_laws_qPoints, eqI_true, Bool.not_true, cond_false, h, Option.bind_some]
theorem at_in {f : F3} {D x y : Int} (hF : Fm D f) (hx : inN x = true) (hy : inN y = true) : r_impl_ValueAt f x y = some (w64 (f.1 * x * x + f.2.1 * x * y + f.2.2 * y * y), true) := by
  have h1 : r_impl_IsForm f = some true := by rw [form_val, hF.ia, hF.ib, hF.ic]; rfl
  have h2 : r_impl_areNumbers [x, y] = some true := by
    rw [num_val _ (by simp)]
    simp [hx, hy]
  have h3 : r_impl_Form_at f x y = _ := at_w f.1 f.2.1 f.2.2 x y
  simp only [r_impl_ValueAt, h1, h2, h3, Option.bind_some, Bool.not_true, cond_false]
theorem law_run {f : F3} {n D : Int} (hF : Fm D f) (hn : n.natAbs ≤ 27000000) {P : List (Int × Int)} (hP : ∀ p ∈ P, GoodP f n p) (hl : P.length ≤ 1000) {more : List Int} {y6 : List (Int × Int) × Bool} {ok : Bool} : ∀ (k fu i : Nat), i + k = P.length → k < fu → r_laws_FnIndefiniteValues_L13 more (f, n) y6 (P, ok) fu (i : Int) = some (.inl ())
  | k, 0, i, hi, hf => by omega
  | 0, fu + 1, i, hi, hf => by
    rw [r_laws_FnIndefiniteValues_L13]
    simp only []
    rw [ltI_eq, decide_eq_false (by omega), cond_false]
  | k + 1, fu + 1, i, hi, hf => by
    obtain ⟨g1, g2, g3, g4⟩ := hP _ (List.getElem_mem (show i < P.length by omega))
    have i3 := inN_iff.1 g3
    have i4 := inN_iff.1 g4
    rw [r_laws_FnIndefiniteValues_L13]
    simp only []
    rw [ltI_eq, decide_eq_true (by omega), cond_true, getNat (show i < P.length by omega)]
    simp only [Option.bind_some, at_in hF g3 g4, g1, qgcd_val (a := P[i].1) (b := P[i].2) (by omega) (by omega), g2]
    rw [w64_in (n := n) (by omega), eqI_true]
    simp only [Bool.not_true, cond_false, Option.bind_some, sI_eq, wsucc (show i < 1000000000 by omega)]
    exact law_run hF hn hP hl k fu (i + 1) (by omega) (by omega)
theorem bez_nat : ∀ (a b : Nat), ∃ x y : Int, x * a + y * b = (Nat.gcd a b : Int) := by
  intro a b
  induction a, b using Nat.gcd.induction with
  | H0 n => exact ⟨0, 1, by simp⟩
  | H1 m n hm ih =>
    obtain ⟨x, y, h⟩ := ih
    refine ⟨y - x * (n / m : Nat), x, ?_⟩
    rw [Nat.gcd_rec, ← h]
    have e : (n : Int) = (n % m : Nat) + m * (n / m : Nat) := by exact_mod_cast (Nat.mod_add_div n m).symm
    rw [e]
    grind
theorem bez_int (a b : Int) : ∃ x y : Int, x * a + y * b = (Int.gcd a b : Int) := by
  obtain ⟨x, y, h⟩ := bez_nat a.natAbs b.natAbs
  have sg : ∀ z : Int, ∃ t : Int, (z.natAbs : Int) = t * z := by
    intro z
    rcases Int.le_total 0 z with h | h
    · exact ⟨1, by omega⟩
    · exact ⟨-1, by omega⟩
  obtain ⟨s, hs⟩ := sg a
  obtain ⟨t, ht⟩ := sg b
  refine ⟨x * s, y * t, ?_⟩
  rw [hs, ht] at h
  rw [show Int.gcd a b = Nat.gcd a.natAbs b.natAbs from rfl, ← h]
  grind
/-- A value at a primitive point: the form belongs to a root. -/
theorem root_of {D x y v : Int} {f : F3} (hF : Fm D f) (hg : Int.gcd x y = 1) (hv : f.1 * x * x + f.2.1 * x * y + f.2.2 * y * y = v) (hv0 : 1 ≤ v.natAbs) : ∃ b, 0 ≤ b ∧ b < 2 * (v.natAbs : Int) ∧ 4 * (v.natAbs : Int) ∣ b * b - D ∧ Eqv f (gF v D b) := by
  obtain ⟨s, t, hst⟩ := bez_int x y
  rw [hg] at hst
  have hdt : x * s - (-t) * y = 1 := by
    have : (-t) * y = -(t * y) := by grind
    have e : x * s = s * x := Int.mul_comm ..
    omega
  obtain ⟨b1, c1, hM⟩ : ∃ b1 c1, Mv f.1 f.2.1 f.2.2 x (-t) y s v b1 c1 := ⟨_, _, hv, rfl, rfl, hdt⟩
  have m1 := Int.emod_nonneg b1 (b := 2 * (v.natAbs : Int)) (by omega)
  have m2 := Int.emod_lt_of_pos b1 (b := 2 * (v.natAbs : Int)) (by omega)
  have m3 := Int.emod_add_mul_ediv b1 (2 * (v.natAbs : Int))
  obtain ⟨k, hk⟩ : ∃ k, b1 % (2 * (v.natAbs : Int)) = b1 + 2 * v * k := by
    rcases (show (v.natAbs : Int) = v ∨ (v.natAbs : Int) = -v by omega) with e | e
    · exact ⟨-(b1 / (2 * (v.natAbs : Int))), by rw [e] at m3 ⊢; rw [Int.mul_neg]; omega⟩
    · refine ⟨b1 / (2 * (v.natAbs : Int)), ?_⟩
      rw [e] at m3 ⊢
      have : 2 * -v * (b1 / (2 * -v)) = -(2 * v * (b1 / (2 * -v))) := by grind
      omega
  generalize hb : b1 % (2 * (v.natAbs : Int)) = b at *
  have hN : Mv v b1 c1 1 k 0 1 v b (v * k * k + b1 * k + c1) := ⟨by grind, by rw [hk]; grind, by grind, by grind⟩
  have hM2 := hM.comp hN
  have hd := hM2.disc
  rw [hF.dis] at hd
  have e4 : 4 * v * (v * k * k + b1 * k + c1) = b * b - D := by omega
  refine ⟨b, m1, m2, ?_, ?_⟩
  · rw [← e4]
    rcases (show (v.natAbs : Int) = v ∨ (v.natAbs : Int) = -v by omega) with e | e
    · rw [e]; exact Int.dvd_mul_right _ _
    · rw [e]
      exact ⟨-(v * k * k + b1 * k + c1), by grind⟩
  · have ht : Int.tdiv (b * b - D) (4 * v) = v * k * k + b1 * k + c1 := tdv (by omega) e4
    unfold gF
    rw [ht]
    exact ⟨_, _, _, _, hM2⟩
theorem value_both {f : F3} {x y : Int} (hx : inN x = true) (hy : inN y = true) : ∃ v b, r_impl_ValueAt f x y = some (v, b) ∧ r_spec_ValueAt f x y = some (v, b) := by
  have h2 : r_impl_areNumbers [x, y] = some true := by
    rw [num_val _ (by simp)]
    simp [hx, hy]
  have h3 : r_impl_Form_at f x y = _ := at_w f.1 f.2.1 f.2.2 x y
  have h4 : r_spec_foValue f x y = _ := at_w f.1 f.2.1 f.2.2 x y
  simp only [r_impl_ValueAt, r_spec_ValueAt, form_val, sform_val, good_val, hx, hy, h2, h3, h4, Option.bind_some]
  cases (inN f.1 && (inN f.2.1 && inN f.2.2)) with
  | false => exact ⟨_, _, rfl, rfl⟩
  | true => exact ⟨_, _, rfl, rfl⟩
theorem raw_FnIndefiniteValues (code more : List Int) (hc8 : ∀ x ∈ code, 0 ≤ x ∧ x ≤ 255) (hm8 : ∀ x ∈ more, 0 ≤ x ∧ x ≤ 255) : r_laws_FnIndefiniteValues code more = some true := by
  rcases big_cases code more with hb | ⟨hb, hc, hm⟩
  · simp only [r_laws_FnIndefiniteValues, hb, Option.bind_some, cond_true]
  have hF := FUge
  obtain ⟨f, n, ed, hn⟩ := iv_draw hc hc8
  obtain ⟨P, ok, p1, p2, p3, p4, p5, p6⟩ := points_val f hn
  obtain ⟨z, ez, z0, z1⟩ := numberOf_ok hm hm8
  have t1 := tmod_range z0 (show (0 : Int) < 7 by decide)
  have q0 : 0 ≤ Int.tdiv z 7 := Int.tdiv_nonneg z0 (by decide)
  have q1 : Int.tdiv z 7 ≤ z := by
    rw [Int.tdiv_eq_ediv_of_nonneg z0]
    exact Int.ediv_le_self _ z0
  have t2 := tmod_range (x := Int.tdiv z 7) q0 (show (0 : Int) < 7 by decide)
  have hx : inN (Int.tmod z 7 - 3) = true := inN_iff.2 (by omega)
  have hy : inN (Int.tmod (Int.tdiv z 7) 7 - 3) = true := inN_iff.2 (by omega)
  have hx3 : (Int.tmod z 7 - 3).natAbs ≤ 3 := by omega
  have hy3 : (Int.tmod (Int.tdiv z 7) 7 - 3).natAbs ≤ 3 := by omega
  have w1 : w64 (Int.tmod z 7 - 3) = Int.tmod z 7 - 3 := w64_in (by omega)
  have w2 : w64 (Int.tdiv z 7) = Int.tdiv z 7 := w64_in (by omega)
  have w3 : w64 (Int.tmod (Int.tdiv z 7) 7 - 3) = Int.tmod (Int.tdiv z 7) 7 - 3 := w64_in (by omega)
  generalize hX : Int.tmod z 7 - 3 = x at *
  generalize hY : Int.tmod (Int.tdiv z 7) 7 - 3 = y at *
  have hrun : r_laws_FnIndefiniteValues_L13 more (f, n) (P, ok) (P, ok) FU 0 = some (.inl ()) := by
    cases ok with
    | false =>
      have : P = [] := by
        apply Classical.byContradiction
        intro h
        have := p6 h
        cases this
      subst this
      obtain ⟨k, hk⟩ : ∃ k, FU = k + 1 := ⟨FU - 1, by omega⟩
      rw [hk, r_laws_FnIndefiniteValues_L13]
      rfl
    | true =>
      obtain ⟨D, r, hD, hFm, _⟩ := p5 rfl
      exact law_run hFm hn p3 p4 P.length FU 0 (by omega) (by omega)
  simp only [r_laws_FnIndefiniteValues, hb, ed, p1, p2, pts_self P p4, hrun, ez, w2, w1, hX, hY, w3, sI_eq, Option.bind_some, cond_false, bne_self_eq_false, Bool.not_true]
  cases ok with
  | false =>
    obtain ⟨v, b, v1, v2⟩ := value_both (f := f) hx hy
    simp only [v1, v2, Option.bind_some, bne_self_eq_false, eqI_true, Bool.not_true, cond_false]
  | true =>
    obtain ⟨D, r, hD, hFm, _⟩ := p5 rfl
    obtain ⟨s1, s2⟩ := small_val hFm.ia hFm.ib hFm.ic hx3 hy3
    have v1 := at_in hFm hx hy
    have v2 : r_spec_ValueAt f x y = some (f.1 * x * x + f.2.1 * x * y + f.2.2 * y * y, true) := by
      have h4 : r_spec_foValue f x y = _ := s1
      simp only [r_spec_ValueAt, sform_val, good_val, hFm.ia, hFm.ib, hFm.ic, hx, hy, h4, Option.bind_some, Bool.and_self, Bool.not_true, cond_false]
    rw [w64_in (by omega)] at v1
    generalize hv : f.1 * x * x + f.2.1 * x * y + f.2.2 * y * y = v at *
    obtain ⟨Q, ok2, a1, a2, a3, a4, a5, a6⟩ := points_val f (n := v) s2
    simp only [v1, v2, Option.bind_some, bne_self_eq_false, eqI_true, Bool.not_true, cond_false, cond_true, qgcd_val (a := x) (b := y) (by omega) (by omega), qabs_val (n := v) (by omega)]
    cases hg : eqI (Int.gcd x y : Int) 1 with
    | false => rfl
    | true =>
      simp only [cond_true]
      cases hv0 : eqI v 0 with
      | true => rfl
      | false =>
        simp only [Bool.not_false, cond_true]
        cases hle : leI (v.natAbs : Int) 200 with
        | false => rfl
        | true =>
          simp only [cond_true, a1, a2, pts_self Q a4, Option.bind_some, beq_self_eq_true]
          cases ok2 with
          | false => rfl
          | true =>
            obtain ⟨D2, r2, hD2, hFm2, n1, n2, hne⟩ := a5 rfl
            have hg1 : Int.gcd x y = 1 := by
              rw [eqI_eq] at hg
              have := eq_of_beq hg
              omega
            have hQ := hne (root_of hFm2 hg1 hv n1)
            have hpos : 0 < Q.length := List.length_pos_iff.2 hQ
            rw [ltI_eq, decide_eq_true (by omega)]
            rfl
end Go.Proofs.Ytgeajejmikaniaa
