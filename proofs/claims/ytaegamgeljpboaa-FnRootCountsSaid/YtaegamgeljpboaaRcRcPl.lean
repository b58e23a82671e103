/-
  The primitive representations by all classes, divided by the number of automorphs, are as many as the primitive forms with this leading coefficient.
  Conditions: none.
-/
import Derived.Test.YtaegamgeljpboaaRcRcLs
import Derived.Test.YtaegamgeljpboaaRcRcTab
import Derived.Test.YtaegamgeljpboaaRcDisc
namespace Go.Proofs.Ytaegamgeljpboaa
set_option linter.unusedVariables false
set_option linter.unusedSimpArgs false

theorem pair_len (T : Nat → Bool) (p : Nat) (hp : p < 2) (hT : ∀ x, x % 2 ≠ p → T x = false) : ∀ N : Nat, ((List.range' 0 (2 * N)).filter T).length = ((List.range N).filter fun k => T (2 * k + p)).length
  | 0 => rfl
  | N + 1 => by
    have ih := pair_len T p hp hT N
    rw [show 2 * (N + 1) = 2 * N + 1 + 1 by omega, List.range'_1_concat, List.range'_1_concat, List.range_succ, List.filter_append, List.filter_append, List.filter_append, List.length_append, List.length_append, List.length_append, ih]
    have e : ∀ (b : Bool) (x : Nat), T x = b → (List.filter T [x]).length = if b then 1 else 0 := by
      intro b x h
      rw [List.filter_cons, h]
      cases b <;> rfl
    have e2 : (List.filter (fun k => T (2 * k + p)) [N]).length = (List.filter T [2 * N + p]).length := by
      rw [e _ _ rfl, List.filter_cons]
      cases T (2 * N + p) <;> rfl
    rw [e2, Nat.zero_add]
    rcases (by omega : p = 0 ∨ p = 1) with rfl | rfl
    · rw [e false (0 + (2 * N + 1)) (hT _ (by omega))]
      rfl
    · rw [e false (2 * N) (hT _ (by omega)), show 0 + (2 * N + 1) = 2 * N + 1 by omega]
      simp
theorem gcd_cast (a b : Nat) : Int.gcd (a : Int) (b : Int) = Nat.gcd a b := by unfold Int.gcd; simp
theorem fl_cnt {D N p m : Nat} (hN : 1 ≤ N) (hp : p < 2) (hm : D + p = 4 * m) : (fl (-(D : Int)) N).length = rcQ N p m N 0 := by
  have hpar : ∀ b : Nat, b % 2 ≠ p → rT (-(D : Int)) N b = false := by
    intro b hb
    unfold rT
    rw [eqI_eq, beq_eq_false_iff_ne]
    intro h
    have h1 := Int.tmod_add_mul_tdiv ((b : Int) * b - -(D : Int)) (4 * (N : Int))
    rw [h] at h1
    generalize ((b : Int) * b - -(D : Int)).tdiv (4 * (N : Int)) = q at h1
    obtain ⟨k, hk⟩ : ∃ k, b = 2 * k + (1 - p) := ⟨b / 2, by omega⟩
    have e1 : (b : Int) * b = 4 * ((k : Int) * k + k * (1 - p : Nat)) + (1 - p : Nat) := by
      rw [hk]
      rcases (by omega : p = 0 ∨ p = 1) with rfl | rfl
      · push_cast; grind
      · push_cast; grind
    have e2 : 4 * (N : Int) * q = 4 * ((N : Int) * q) := by grind
    omega
  have hval : ∀ k : Nat, (prF (gF (-(D : Int)) N ((2 * k + p : Nat) : Int)) && rT (-(D : Int)) N ((2 * k + p : Nat) : Int)) = tQ N p m k := by
    intro k
    have e1 : ((2 * k + p : Nat) : Int) * ((2 * k + p : Nat) : Int) - -(D : Int) = ((4 * (k * (k + p) + m) : Nat) : Int) := by
      have e0 : (D : Int) = 4 * m - p := by omega
      rw [e0]
      rcases (by omega : p = 0 ∨ p = 1) with rfl | rfl
      · push_cast; grind
      · push_cast; grind
    have e4 : 4 * (N : Int) = ((4 * N : Nat) : Int) := by push_cast; rfl
    unfold rT prF gF tQ
    dsimp only
    rw [e1, e4, Int.tdiv_eq_ediv_of_nonneg (by omega), Int.tmod_eq_emod_of_nonneg (by omega), ← Int.natCast_ediv, ← Int.natCast_emod, Nat.mul_mod_mul_left, Nat.mul_div_mul_left _ _ (by omega), gcd_cast, gcd_cast, eqI_eq, eqI_eq]
    generalize k * (k + p) + m = s
    have hG := Nat.gcd_pos_of_pos_left (Nat.gcd (2 * k + p) (s / N)) (m := N) (by omega)
    generalize Nat.gcd N (Nat.gcd (2 * k + p) (s / N)) = G at hG
    rw [Bool.and_comm]
    congr 1
    · rw [Bool.eq_iff_iff, decide_eq_true_iff, beq_iff_eq]; omega
    · rw [Bool.eq_iff_iff, decide_eq_true_iff, beq_iff_eq]; omega
  have h1 : (fl (-(D : Int)) N).length = ((List.range' 0 (2 * N)).filter fun x : Nat => prF (gF (-(D : Int)) N (x : Int)) && rT (-(D : Int)) N (x : Int)).length := by
    unfold fl rts
    rw [List.filter_map, List.length_map, List.filter_filter, List.filter_map, List.length_map]
    rfl
  rw [h1, pair_len _ p hp (fun x hx => by rw [hpar x hx, Bool.and_false]) N, rcQ_eq, Nat.zero_add]
  congr 1
  refine List.filter_congr fun k _ => ?_
  exact hval k
theorem pp_run {l : List (Int × Int)} (hl : l.length ≤ 1000000) (hb : ∀ p ∈ l, p.1.natAbs ≤ 100000000000000 ∧ p.2.natAbs ≤ 100000000000000) : ∀ (fu k : Nat) (acc : List (Int × Int)), k ≤ l.length → l.length - k < fu → acc.length ≤ k →
    r_impl_PrimitivePoints_L6 (l, true) fu (k : Int) acc = some (acc ++ (l.drop k).filter fun p => eqI (Int.gcd p.1 p.2 : Int) 1)
  | 0, k, acc, h0, h1, h2 => by omega
  | fu + 1, k, acc, h0, h1, h2 => by
    rw [r_impl_PrimitivePoints_L6]
    dsimp only
    rw [ltI_eq]
    by_cases hk : k < l.length
    · obtain ⟨c1, c2⟩ := hb (l[k]) (List.getElem_mem hk)
      rw [decide_eq_true (by omega), cond_true, getNat hk, List.drop_eq_getElem_cons hk, List.filter_cons]
      simp only [Option.bind_some, gcd_val (a := l[k].1) (b := l[k].2) (by omega) (by omega), sI_eq, wsucc (show k < 1000000000 by omega)]
      cases eqI (Int.gcd l[k].1 l[k].2 : Int) 1 with
      | true =>
        rw [cond_true, roomOk (by simp; omega), if_pos rfl]
        simp only [Option.bind_some]
        rw [pp_run hl hb fu (k + 1) _ (by omega) (by omega) (by simp; omega)]
        simp
      | false =>
        rw [cond_false, if_neg (by simp)]
        exact pp_run hl hb fu (k + 1) acc (by omega) (by omega) (by omega)
    · rw [decide_eq_false (by omega), cond_false, List.drop_eq_nil_of_le (by omega)]
      simp
/-- A coordinate of a solution is bounded. -/
theorem crd_bd {D X : Nat} {E d n z w : Int} (hd : d = -(D : Int)) (hE : 1 ≤ E) (hn1 : 1 ≤ n) (hn : n ≤ 200) (hX : 800 * E.natAbs < D * ((X + 1) * (X + 1))) (h : w * w = d * z * z + 4 * E * n) : z.natAbs ≤ X := by
  subst hd
  rcases Nat.lt_or_ge X z.natAbs with h1 | h1
  · exfalso
    have h2 : (X + 1) * (X + 1) ≤ z.natAbs * z.natAbs := Nat.mul_le_mul h1 h1
    have h3 : D * ((X + 1) * (X + 1)) ≤ D * (z.natAbs * z.natAbs) := Nat.mul_le_mul_left _ h2
    have h4 : z * z = ((z.natAbs * z.natAbs : Nat) : Int) := Int.natAbs_mul_self.symm
    have h5 : -(D : Int) * z * z = -((D * (z.natAbs * z.natAbs) : Nat) : Int) := by
      rw [Int.mul_assoc, h4]; push_cast; grind
    have h6 : E * n ≤ E * 200 := Int.mul_le_mul_of_nonneg_left hn (by omega)
    have h7 := sqn w
    have h8 : 4 * E * n = 4 * (E * n) := by grind
    omega
  · exact h1
theorem shown_ok {a b c : Int} (ha : inN a = true) (hb : inN b = true) (hc : inN c = true) (h1 : b * b - 4 * a * c < 0) (h2 : -2000 ≤ b * b - 4 * a * c) (h3 : 0 < a) : r_impl_isShownForm (a, b, c) = some true := by
  simp only [r_impl_isShownForm, r_impl_isDefinite, form_val, ha, hb, hc, disc_val ha hb hc, Option.bind_some, Bool.and_self, cond_true, ltI_eq, leI_eq]
  rw [decide_eq_true h1, decide_eq_true h2, decide_eq_true h3]
  rfl
theorem pts_cnt {D : Nat} (hD1 : 3 ≤ D) (hD : D ≤ 2000) {f : Int × Int × Int} (hf : rcF D f.1 f.2.1 f.2.2 (bX D f) (bY D f) = true) {n : Nat} (hn1 : 1 ≤ n) (hn : n ≤ 200) :
    r_impl_PrimitivePoints f (n : Int) = some ((pF D f).filter (fun p => vF f p == n), true) := by
  have hF : FU = 1000000000 := rfl
  obtain ⟨A, B, C⟩ := f
  obtain ⟨⟨a1, a2⟩, ⟨b1, b2⟩, ⟨c1, c2⟩, hdisc, hX, hY, gX, gY⟩ := rcF_eq hf
  dsimp only at a1 a2 b1 b2 c1 c2 hdisc gX gY
  have iA : inN A = true := by rw [inN_iff]; omega
  have iB : inN B = true := by rw [inN_iff]; omega
  have iC : inN C = true := by rw [inN_iff]; omega
  have hdv := disc_val iA iB iC
  have hsh := shown_ok iA iB iC (by omega) (by omega) (by omega)
  have hN : r_impl_isShown (n : Int) = some true := by
    rw [r_impl_isShown, leI_eq, leI_eq, decide_eq_true (by omega), decide_eq_true (by omega)]; rfl
  obtain ⟨l, k1, k2, k3, k4⟩ := points_val (A := A) (B := B) (C := C) (n := (n : Int)) a1 c1 (by omega) (by omega) (by omega) hdv (by omega) (by omega) (by omega) (by omega)
  have hbd : ∀ p, Sol A B C n p → p.1.natAbs ≤ bX D (A, B, C) ∧ p.2.natAbs ≤ bY D (A, B, C) := by
    rintro ⟨x, y⟩ hp
    exact ⟨crd_bd hdisc c1 (by omega) (by omega) gX ((sol_y c1 rfl).1 hp), crd_bd hdisc a1 (by omega) (by omega) gY ((sol_x a1 rfl).1 hp)⟩
  have k5 := pp_run k3 (fun p hp => by have := hbd p ((k4 p).1 hp); omega) FU 0 [] (by omega) (by omega) (by simp)
  rw [List.nil_append, List.drop_zero] at k5
  have k5 : r_impl_PrimitivePoints_L6 (l, true) FU 0 [] = some (l.filter fun p => eqI (Int.gcd p.1 p.2 : Int) 1) := k5
  have key : (l.filter fun p => eqI (Int.gcd p.1 p.2 : Int) 1) = (pF D (A, B, C)).filter (fun p => vF (A, B, C) p == n) := by
    refine srt_ext (List.Pairwise.filter _ k2) (List.Pairwise.filter _ srt_enP) fun p => ?_
    rw [List.mem_filter, List.mem_filter, k4]
    unfold pF
    rw [mem_enP]
    dsimp only
    have hsv : Sol A B C n p ↔ vq A B C p = n := Iff.rfl
    have hpos : 0 ≤ vq A B C p := by
      obtain ⟨x, y⟩ := p
      have h1 := (sol_x (x := x) (y := y) (n := vq A B C (x, y)) a1 rfl).1 rfl
      have h2 := sqn (2 * A * x + B * y)
      have h3 := sqn y
      rw [hdisc] at h1
      have h4 : -(D : Int) * y * y = -((D : Int) * (y * y)) := by grind
      have h5 : 0 ≤ (D : Int) * (y * y) := Int.mul_nonneg (by omega) h3
      rcases Int.lt_or_le (vq A B C (x, y)) 0 with h | h
      · have h6 : 4 * A * vq A B C (x, y) = 4 * (A * vq A B C (x, y)) := by grind
        have h7 : A * vq A B C (x, y) < 0 := Int.mul_neg_of_pos_of_neg (by omega) h
        omega
      · exact h
    have hg : eqI (Int.gcd p.1 p.2 : Int) 1 = decide (Int.gcd p.1 p.2 = 1) := by
      rw [eqI_eq, Bool.eq_iff_iff, decide_eq_true_iff, beq_iff_eq]; omega
    have hok : okQ A B C p = true ↔ vq A B C p ≤ 200 ∧ Int.gcd p.1 p.2 = 1 := by
      unfold okQ okP
      rw [leI_eq, nbeqD]
      by_cases hv : vq A B C p ≤ 200
      · rw [decide_eq_true hv, cond_true, decide_eq_true_iff]
        exact ⟨fun h => ⟨hv, h⟩, fun h => h.2⟩
      · rw [decide_eq_false hv, cond_false]
        exact ⟨fun h => (by cases h), fun h => absurd h.1 hv⟩
    have hvf : (vF (A, B, C) p == n) = true ↔ (vq A B C p).natAbs = n := by rw [beq_iff_eq]; rfl
    have s1 : ((Nat.succ (Nat.mul 2 (bX D (A, B, C))) : Nat) : Int) = 2 * (bX D (A, B, C) : Int) + 1 := by
      show ((2 * bX D (A, B, C) + 1 : Nat) : Int) = _
      push_cast; rfl
    have s2 : ((Nat.succ (Nat.mul 2 (bY D (A, B, C))) : Nat) : Int) = 2 * (bY D (A, B, C) : Int) + 1 := by
      show ((2 * bY D (A, B, C) + 1 : Nat) : Int) = _
      push_cast; rfl
    rw [hg, decide_eq_true_iff, hok, hvf, hsv, s1, s2]
    constructor
    · rintro ⟨h1, h2⟩
      have h3 := hbd p h1
      exact ⟨⟨by omega, by omega, by omega, h2⟩, by omega⟩
    · rintro ⟨⟨h1, h2, h3, h4⟩, h5⟩
      exact ⟨by omega, h4⟩
  simp only [r_impl_PrimitivePoints, r_impl_Representations, hsh, hN, Option.bind_some, Bool.not_true, cond_false, k1, k5, key]
theorem sum_run {n : Int} {y14 : Int × Bool} {y8 : List (Int × Int × Int) × Bool} {L : List (Int × Int × Int)} {c : Int × Int × Int → List (Int × Int)} (hL : L.length ≤ 100) (hc : ∀ f ∈ L, r_impl_PrimitivePoints f n = some (c f, true)) (hcl : ∀ f ∈ L, (c f).length ≤ 1000000) :
    ∀ (fu k s : Nat), k ≤ L.length → L.length - k < fu → s ≤ 1000000 * k → r_laws_FnRootCounts_L23 n y14 (L, true) y8 fu (s : Int) (k : Int) = some (.inl ((s + ((L.drop k).map fun f => (c f).length).sum : Nat) : Int))
  | 0, k, s, h1, h2, h3 => by omega
  | fu + 1, k, s, h1, h2, h3 => by
    rw [r_laws_FnRootCounts_L23]
    dsimp only
    rw [ltI_eq]
    by_cases hk : k < L.length
    · have hm := List.getElem_mem hk
      have h4 := hcl _ hm
      rw [decide_eq_true (by omega), cond_true, getNat hk]
      simp only [Option.bind_some, hc _ hm, Bool.not_true, cond_false, sI_eq, wsucc (show k < 1000000000 by omega)]
      have ew : w64 ((s : Int) + ((c L[k]).length : Int)) = ((s + (c L[k]).length : Nat) : Int) := by rw [w64_in (by omega)]; push_cast; rfl
      rw [ew, sum_run hL hc hcl fu (k + 1) _ (by omega) (by omega) (by omega), List.drop_eq_getElem_cons hk, List.map_cons, List.sum_cons, Nat.add_assoc]
    · rw [decide_eq_false (by omega), cond_false, List.drop_eq_nil_of_le (by omega)]
      simp
/-- What one discriminant's table says. -/
theorem one_of {D : Nat} (hD1 : 3 ≤ D) (hD : D ≤ 2000) (h : rcOne D = true) {p m : Nat} (hp : p = D % 2) (hm : m = (D + p) / 4) : ∃ L, r_impl_ReducedForms (-(D : Int)) = some (L, true) ∧ L.length ≤ 100 ∧ (∀ f ∈ L, rcF D f.1 f.2.1 f.2.2 (bX D f) (bY D f) = true) ∧ ∀ n, 1 ≤ n → n ≤ 200 → (L.map fun f => ((pF D f).filter fun p => vF f p == n).length).sum = rcW D * rcQ n p m n 0 := by
  unfold rcOne at h
  cases e : r_impl_ReducedForms (-(D : Int)) with
  | none => rw [e] at h; cases h
  | some q =>
    obtain ⟨L, b⟩ := q
    rw [e] at h
    cases b with
    | false => cases h
    | true =>
      dsimp only at h
      obtain ⟨h1, h⟩ := bif_t h
      rw [nbleD] at h1
      have h1 := of_decide_eq_true h1
      cases e2 : rcL D L 0 with
      | none => rw [e2] at h; cases h
      | some H =>
        rw [e2] at h
        dsimp only at h
        rw [fM_eq, fM_eq, fM_eq, fM_eq] at h
        obtain ⟨g1, g2⟩ := rcL_eq D L 0 H e2
        refine ⟨L, rfl, h1, g2, fun n n1 n2 => ?_⟩
        have hlen := len_aF D L g2
        have hd := dig (l := aF D L) (by omega) n
        obtain ⟨j, rfl⟩ : ∃ j, n = 1 + j := ⟨n - 1, by omega⟩
        have hr := rcN_eq _ _ _ 200 1 _ h j (by omega)
        have hm' : m = Nat.div (Nat.add D (Nat.mod D 2)) 4 := by subst hm; subst hp; rfl
        have hp' : p = Nat.mod D 2 := hp
        rw [← cnt_aF, ← hd, hp', hm', ← hr, g1, Nat.zero_add, Nat.add_comm 1 j, Nat.pow_succ, Nat.mul_comm (1048576 ^ j), ← Nat.div_div_eq_div_mul]
        rfl
theorem aut_none {d : Int} (h : ¬ (-2000 ≤ d ∧ d ≤ -3 ∧ d % 4 ≤ 1)) : r_impl_AutomorphCount d = some (0, false) ∧ r_spec_AutomorphCount d = some (0, false) := by
  simp only [r_impl_AutomorphCount, r_spec_AutomorphCount, negdisc_eq, negdisc_val, decide_eq_false h, Option.bind_some, Bool.not_false, cond_true, and_self]
theorem aut_some {D : Nat} (h : -2000 ≤ -(D : Int) ∧ -(D : Int) ≤ -3 ∧ -(D : Int) % 4 ≤ 1) : r_impl_AutomorphCount (-(D : Int)) = some ((rcW D : Int), true) ∧ r_spec_AutomorphCount (-(D : Int)) = some ((rcW D : Int), true) := by
  simp only [r_impl_AutomorphCount, r_spec_AutomorphCount, r_spec_reUnits, negdisc_eq, negdisc_val, decide_eq_true h, Option.bind_some, Bool.not_true, cond_false, eqI_eq]
  unfold rcW
  rw [nbeqD, nbeqD]
  by_cases h3 : D = 3
  · subst h3; exact ⟨rfl, rfl⟩
  · by_cases h4 : D = 4
    · subst h4; exact ⟨rfl, rfl⟩
    · have e3 : (-(D : Int) == -3) = false := by rw [beq_eq_false_iff_ne]; omega
      have e4 : (-(D : Int) == -4) = false := by rw [beq_eq_false_iff_ne]; omega
      rw [e3, e4, decide_eq_false h3, decide_eq_false h4]
      exact ⟨rfl, rfl⟩
theorem raw_FnRootCounts (code more : List Int) (hc8 : ∀ x ∈ code, 0 ≤ x ∧ x ≤ 255) (hm8 : ∀ x ∈ more, 0 ≤ x ∧ x ≤ 255) : r_laws_FnRootCounts code more = some true := by
  rcases big_cases code more with hb | ⟨hb, hcl, hml⟩
  · simp only [r_laws_FnRootCounts, hb, Option.bind_some, cond_true]
  · have hF := FUge
    obtain ⟨d, c, e, hcur⟩ := disc_ok (CurB.start hcl hc8) (by omega)
    have hd : r_spec_DrawReducedForms code = some d := by simp only [r_spec_DrawReducedForms, e, Option.bind_some]
    obtain ⟨r, hr, r1, r2⟩ := numberOf_ok hml hm8
    obtain ⟨n, hn1, hn2, hn⟩ : ∃ n : Nat, 1 ≤ n ∧ n ≤ 200 ∧ w64 (1 + Int.tmod r 200) = (n : Int) := by
      have h1 := Int.tmod_nonneg 200 r1
      have h2 := Int.tmod_lt_of_pos r (show (0 : Int) < 200 by omega)
      refine ⟨(1 + Int.tmod r 200).toNat, by omega, by omega, ?_⟩
      rw [w64_in (by omega)]
      omega
    simp only [r_laws_FnRootCounts, hb, Option.bind_some, cond_false, hd, hr, sI_eq, hn]
    cases hin : inN d with
    | false =>
      obtain ⟨f1, f2⟩ := fl_none (n := (n : Int)) hin
      have hno : ¬ (-2000 ≤ d ∧ d ≤ -3 ∧ d % 4 ≤ 1) := by
        intro h
        rw [show inN d = true by rw [inN_iff]; omega] at hin
        cases hin
      obtain ⟨g1, g2⟩ := aut_none hno
      simp only [f1, f2, g1, g2, Option.bind_some, bne_self_eq_false, cond_false, qf_self [] (by simp), Bool.not_true, eqSelf]
    | true =>
      obtain ⟨f1, f2⟩ := fl_both hn1 hn2 hin
      have hfl := fl_len d n
      simp only [f1, f2, Option.bind_some, bne_self_eq_false, cond_false, qf_self (fl d n) (by omega), Bool.not_true]
      by_cases hno : -2000 ≤ d ∧ d ≤ -3 ∧ d % 4 ≤ 1
      · obtain ⟨D, rfl⟩ : ∃ D : Nat, d = -(D : Int) := ⟨d.natAbs, by omega⟩
        obtain ⟨g1, g2⟩ := aut_some hno
        have ht := rc_tab D (by omega) (by omega)
        have ho : rcOne D = true := by
          unfold rcG at ht
          rw [fM_eq, nbeqD, nbeqD] at ht
          have e0 : Nat.mod D 4 = D % 4 := rfl
          rw [e0] at ht
          by_cases h0 : D % 4 = 0
          · rw [decide_eq_true h0, cond_true] at ht; exact ht
          · rw [decide_eq_false h0, cond_false, decide_eq_true (by omega), cond_true] at ht; exact ht
        obtain ⟨L, q1, q2, q3, q4⟩ := one_of (by omega) (by omega) ho rfl rfl
        have hs := sum_run (n := (n : Int)) (y14 := ((rcW D : Int), true)) (y8 := (fl (-(D : Int)) n, true)) (L := L) (c := fun f => (pF D f).filter (fun p => vF f p == n)) q2 (fun f hf => pts_cnt (by omega) (by omega) (q3 f hf) hn1 hn2) (fun f hf => by
          obtain ⟨_, _, _, _, hX, hY, _, _⟩ := rcF_eq (q3 f hf)
          have h2 := len_enP f.1 f.2.1 f.2.2 (Nat.succ (Nat.mul 2 (bY D f))) (-(bY D f : Int)) (Nat.succ (Nat.mul 2 (bX D f))) (-(bX D f : Int))
          have h3 : Nat.succ (Nat.mul 2 (bX D f)) * Nat.succ (Nat.mul 2 (bY D f)) ≤ 81 * 81 := Nat.mul_le_mul (by show 2 * bX D f + 1 ≤ 81; omega) (by show 2 * bY D f + 1 ≤ 81; omega)
          refine Nat.le_trans (List.length_filter_le _ _) ?_
          unfold pF
          omega) FU 0 0 (by omega) (by omega) (by omega)
        rw [Nat.zero_add, List.drop_zero, q4 n hn1 hn2] at hs
        have hs : r_laws_FnRootCounts_L23 (n : Int) ((rcW D : Int), true) (L, true) (fl (-(D : Int)) n, true) FU 0 0 = some (.inl ((rcW D * rcQ n (D % 2) ((D + D % 2) / 4) n 0 : Nat) : Int)) := hs
        have hq := fl_cnt (D := D) (N := n) (p := D % 2) (m := (D + D % 2) / 4) hn1 (by omega) (by omega)
        have hw : rcW D ≤ 6 := by
          unfold rcW
          cases Nat.beq D 3 <;> cases Nat.beq D 4 <;> simp
        have hmul : rcW D * (fl (-(D : Int)) n).length ≤ 6 * 400 := Nat.mul_le_mul hw (by omega)
        have ew : w64 ((rcW D : Int) * ((fl (-(D : Int)) n).length : Int)) = ((rcW D * (fl (-(D : Int)) n).length : Nat) : Int) := by
          rw [w64_in (by push_cast at hmul ⊢; omega)]; push_cast; rfl
        simp only [g1, g2, bne_self_eq_false, cond_false, Option.bind_some, eqSelf, Bool.not_true, cond_true, q1, hs, ew, ← hq]
      · obtain ⟨g1, g2⟩ := aut_none hno
        simp only [g1, g2, Option.bind_some, bne_self_eq_false, cond_false, Bool.not_true, eqSelf]
end Go.Proofs.Ytaegamgeljpboaa
