/-
  The series of a pair is the product of both, two sums of two squares are sums of four, and a first difference is one.
  Conditions: none.
-/
import Derived.Test.YtgeajejmikaniaaSpTh
import Derived.Test.YtgeajejmikaniaaSpDrw
import Derived.Test.YtgeajejmikaniaaSpSpTab
namespace Go.Proofs.Ytgeajejmikaniaa
set_option linter.unusedVariables false
set_option linter.unusedSimpArgs false

/-- A convolution's sum. -/
def cvF (F G : Nat → Int) (t : Nat) : Nat → Int
  | 0 => 0
  | i + 1 => cvF F G t i + F i * G (t - i)
def tabF (F : Nat → Int) (n : Nat) : List Int := (List.range (n + 1)).map F
theorem tabF_len (F : Nat → Int) (n : Nat) : (tabF F n).length = n + 1 := by simp [tabF]
theorem tabF_get {F : Nat → Int} {n i : Nat} (h : i ≤ n) : getI (tabF F n) (i : Int) = some (F i) := by
  rw [getNat (by rw [tabF_len]; omega)]
  simp [tabF]
structure Sml (F G : Nat → Int) (n : Nat) : Prop where
  f : ∀ i, (F i).natAbs ≤ 1000
  g : ∀ i, (G i).natAbs ≤ 1000
  c : ∀ t i, (cvF F G t i).natAbs ≤ 1000000
theorem prod_row {F G : Nat → Int} {n : Nat} (h : Sml F G n) (hn : n ≤ 100) {t : Nat} (ht : t ≤ n) (l4 : List Int) : ∀ (k fu i : Nat) (l : List Int), i + k = t + 1 → k < fu → l.length = n + 1 → l[t]? = some (cvF F G t i) →
    r_impl_product_L12 (tabF F n) (tabF G n) l4 (t : Int) fu (i : Int) l = some (l.set t (cvF F G t (t + 1)))
  | k, 0, i, l, _, hf, _, _ => by omega
  | 0, fu + 1, i, l, hi, hf, hl, hg => by
    rw [r_impl_product_L12, leI_eq, decide_eq_false (by omega), cond_false]
    congr 1
    refine List.ext_getElem? fun j => ?_
    rw [List.getElem?_set]
    by_cases hj : t = j
    · subst hj
      rw [if_pos rfl, if_pos (by omega), hg, show i = t + 1 by omega]
    · rw [if_neg hj]
  | k + 1, fu + 1, i, l, hi, hf, hl, hg => by
    have hgt : getI l (t : Int) = some (cvF F G t i) := by
      rw [getNat (by omega)]
      rw [List.getElem?_eq_getElem (by omega)] at hg
      exact hg
    have e1 : w64 ((t : Int) - (i : Int)) = ((t - i : Nat) : Int) := by rw [w64_in (by omega)]; omega
    have b1 := abs_mul (x := F i) (y := G (t - i)) (A := 1000) (B := 1000) (h.f i) (h.g _)
    have b2 := h.c t i
    rw [r_impl_product_L12, leI_eq, decide_eq_true (by omega), cond_true, hgt, tabF_get (by omega), e1, tabF_get (by omega)]
    simp only [Option.bind_some, sI_eq, wsucc (show i < 1000000000 by omega), Int.toNat_natCast]
    rw [w64_abs (n := F i * G (t - i)) (by omega), w64_abs (by omega)]
    rw [prod_row h hn ht l4 k fu (i + 1) _ (by omega) (by omega) (by rw [List.length_set]; exact hl) (by rw [List.getElem?_set, if_pos rfl, if_pos (by omega)]; rfl), List.set_set]
def cvL2 (F G : Nat → Int) (n : Nat) : List Int := tabF (fun t => cvF F G t (t + 1)) n
theorem prod_all {F G : Nat → Int} {n : Nat} (h : Sml F G n) (hn : n ≤ 100) {l4 : List Int} (h4 : l4.length = n + 1) : ∀ (k fu t : Nat), t + k = n + 1 → k < fu →
    r_impl_product_L7 (tabF F n) (tabF G n) l4 fu (t : Int) (((List.range t).map fun t => cvF F G t (t + 1)) ++ List.replicate k 0) = some (cvL2 F G n)
  | k, 0, t, _, hf => by omega
  | 0, fu + 1, t, ht, hf => by
    rw [r_impl_product_L7, h4, ltI_eq, decide_eq_false (by omega), cond_false, List.replicate_zero, List.append_nil, show t = n + 1 by omega]
    rfl
  | k + 1, fu + 1, t, ht, hf => by
    have hF := FUge
    rw [r_impl_product_L7, h4, ltI_eq, decide_eq_true (by omega), cond_true]
    have hlen : (((List.range t).map fun t => cvF F G t (t + 1)) ++ List.replicate (k + 1) (0 : Int)).length = n + 1 := by simp; omega
    have hrow := prod_row h hn (t := t) (by omega) l4 (t + 1) FU 0 (((List.range t).map fun t => cvF F G t (t + 1)) ++ List.replicate (k + 1) 0) (by omega) (by omega) hlen (by
      rw [List.getElem?_append_right (by simp)]
      simp [cvF])
    have e0 : (((0 : Nat) : Int)) = 0 := rfl
    rw [e0] at hrow
    rw [hrow]
    simp only [Option.bind_some, sI_eq, wsucc (show t < 1000000000 by omega)]
    have hset : (((List.range t).map fun t => cvF F G t (t + 1)) ++ List.replicate (k + 1) (0 : Int)).set t (cvF F G t (t + 1)) = ((List.range (t + 1)).map fun t => cvF F G t (t + 1)) ++ List.replicate k 0 := by
      rw [List.set_append_right _ _ (by simp)]
      rw [List.range_succ, List.map_append, List.append_assoc]
      congr 1
      simp [List.replicate_succ]
    rw [hset]
    exact prod_all h hn h4 k fu (t + 1) (by omega) (by omega)
theorem mkN {n : Nat} (h : n ≤ 1000000) : mk (n : Int) (n : Int) = some () := by
  unfold mk
  rw [leI_eq, leI_eq, leI_eq, decide_eq_true (by omega), decide_eq_true (by omega), decide_eq_true (by omega)]
  rfl
theorem product_val {F G : Nat → Int} {n : Nat} (h : Sml F G n) (hn : n ≤ 100) : r_impl_product (tabF F n) (tabF G n) = some (cvL2 F G n) := by
  have hF := FUge
  have hmn : mnI (((n + 1 : Nat)) : Int) ((n + 1 : Nat) : Int) = ((n + 1 : Nat) : Int) := by unfold mnI; cases ltI ((n + 1 : Nat) : Int) ((n + 1 : Nat) : Int) <;> rfl
  simp only [r_impl_product, tabF_len, hmn, mkN (show n + 1 ≤ 1000000 by omega), Option.bind_some, Int.toNat_natCast]
  have := prod_all h hn (l4 := List.replicate (n + 1) 0) (by simp) (n + 1) FU 0 (by omega) (by omega)
  have e0 : (((0 : Nat) : Int)) = 0 := rfl
  rw [List.range_zero, List.map_nil, List.nil_append, e0] at this
  rw [this]
  rfl
theorem th13_eq (a b l4 : List Int) (t5 t6 : Int) : ∀ (fu : Nat) (i : Int) (l : List Int), r_spec_thProduct_L13 a b t5 t6 fu i l = r_impl_product_L12 a b l4 t6 fu i l
  | 0, i, l => rfl
  | fu + 1, i, l => by
    rw [r_spec_thProduct_L13, r_impl_product_L12]
    simp only [sI_eq, th13_eq a b l4 t5 t6 fu]
theorem th8_eq (a b l4 : List Int) : ∀ (fu : Nat) (t : Int) (l : List Int), r_spec_thProduct_L8 a b (l4.length : Int) fu t l = r_impl_product_L7 a b l4 fu t l
  | 0, t, l => rfl
  | fu + 1, t, l => by
    rw [r_spec_thProduct_L8, r_impl_product_L7]
    simp only [sI_eq, th13_eq a b l4, th8_eq a b l4 fu]
theorem sproduct_val {F G : Nat → Int} {n : Nat} (h : Sml F G n) (hn : n ≤ 100) : r_spec_thProduct (tabF F n) (tabF G n) = some (cvL2 F G n) := by
  have h1 := product_val h hn
  have hmn : mnI (((n + 1 : Nat)) : Int) ((n + 1 : Nat) : Int) = ((n + 1 : Nat) : Int) := by unfold mnI; cases ltI ((n + 1 : Nat) : Int) ((n + 1 : Nat) : Int) <;> rfl
  have hl : r_spec_l1Least ((n + 1 : Nat) : Int) ((n + 1 : Nat) : Int) = some ((n + 1 : Nat) : Int) := by unfold r_spec_l1Least; cases ltI ((n + 1 : Nat) : Int) ((n + 1 : Nat) : Int) <;> rfl
  simp only [r_impl_product, tabF_len, hmn, mkN (show n + 1 ≤ 1000000 by omega), Option.bind_some, Int.toNat_natCast] at h1
  simp only [r_spec_thProduct, tabF_len, hl, mkN (show n + 1 ≤ 1000000 by omega), Option.bind_some, Int.toNat_natCast, sI_eq, th8_eq, h1]
/-! ### The counts are small -/
theorem cnt_pre (A B C : Int) (h : ∀ p, 0 ≤ vT A B C p) : ∀ i : Nat, ((List.range i).map fun m => TC A B C m).sum = (bx.filter fun p => decide (vT A B C p < (i : Int))).length
  | 0 => by
    have : (bx.filter fun p => decide (vT A B C p < ((0 : Nat) : Int))) = [] := by
      rw [List.filter_eq_nil_iff]
      intro p _
      have := h p
      simp only [decide_eq_true_eq]
      omega
    rw [this]
    rfl
  | i + 1 => by
    rw [List.range_succ, List.map_append, List.sum_append, cnt_pre A B C h i]
    have key : ∀ l : List (Int × Int), (l.filter fun p => decide (vT A B C p < (i : Int))).length + (l.filter fun p => decide (vT A B C p = ((i : Nat) : Int))).length = (l.filter fun p => decide (vT A B C p < ((i + 1 : Nat) : Int))).length := by
      intro l
      induction l with
      | nil => rfl
      | cons p l ih =>
        simp only [List.filter_cons]
        by_cases h1 : vT A B C p < (i : Int)
        · rw [decide_eq_true h1, decide_eq_false (show ¬ vT A B C p = ((i : Nat) : Int) by omega), decide_eq_true (show vT A B C p < ((i + 1 : Nat) : Int) by omega)]
          simp only [if_true, Bool.false_eq_true, if_false, List.length_cons]
          omega
        · by_cases h2 : vT A B C p = ((i : Nat) : Int)
          · rw [decide_eq_false h1, decide_eq_true h2, decide_eq_true (show vT A B C p < ((i + 1 : Nat) : Int) by omega)]
            simp only [if_true, Bool.false_eq_true, if_false, List.length_cons]
            omega
          · rw [decide_eq_false h1, decide_eq_false h2, decide_eq_false (show ¬ vT A B C p < ((i + 1 : Nat) : Int) by omega)]
            simp only [Bool.false_eq_true, if_false]
            exact ih
    have := key bx
    simp only [List.map_cons, List.map_nil, List.sum_cons, List.sum_nil]
    unfold TC
    omega
def tcF (A B C : Int) (m : Nat) : Int := (TC A B C m : Int)
theorem cv_le (A B C A' B' C' : Int) (t : Nat) : ∀ i : Nat, 0 ≤ cvF (tcF A B C) (tcF A' B' C') t i ∧ cvF (tcF A B C) (tcF A' B' C') t i ≤ ((((List.range i).map fun m => TC A B C m).sum * 841 : Nat) : Int)
  | 0 => by simp [cvF]
  | i + 1 => by
    obtain ⟨h1, h2⟩ := cv_le A B C A' B' C' t i
    have h3 := TC_le A' B' C' (t - i)
    have h4 : TC A B C i * TC A' B' C' (t - i) ≤ TC A B C i * 841 := Nat.mul_le_mul_left _ h3
    have e : cvF (tcF A B C) (tcF A' B' C') t (i + 1) = cvF (tcF A B C) (tcF A' B' C') t i + ((TC A B C i * TC A' B' C' (t - i) : Nat) : Int) := by
      unfold cvF
      rw [show tcF A B C i * tcF A' B' C' (t - i) = ((TC A B C i * TC A' B' C' (t - i) : Nat) : Int) by unfold tcF; push_cast; rfl]
      cases i <;> rfl
    rw [e, List.range_succ, List.map_append, List.sum_append]
    simp only [List.map_cons, List.map_nil, List.sum_cons, List.sum_nil, Nat.add_zero]
    rw [Nat.add_mul]
    omega
theorem sml_tc {A B C A' B' C' : Int} (h : ∀ p, 0 ≤ vT A B C p) (n : Nat) : Sml (tcF A B C) (tcF A' B' C') n := by
  refine ⟨fun i => ?_, fun i => ?_, fun t i => ?_⟩
  · have := TC_le A B C i
    unfold tcF; omega
  · have := TC_le A' B' C' i
    unfold tcF; omega
  · obtain ⟨h1, h2⟩ := cv_le A B C A' B' C' t i
    have h3 : ((List.range i).map fun m => TC A B C m).sum ≤ 841 := by
      rw [cnt_pre A B C h i, ← bx_len]
      exact List.length_filter_le _ _
    omega
/-! ### The series of a drawn form -/
theorem rf_of {a b c : Int} (h : r_impl_isShownForm (a, b, c) = some true) : ∃ A B C, r_impl_reduced (a, b, c) = some (A, B, C) ∧ r_spec_reClass (a, b, c) = some (A, B, C) ∧ Rf A B C := by
  obtain ⟨m, A, B, C, h1, h2, h3, h4⟩ := red_both (red_of_shown h)
  obtain ⟨_, _, _, _, h5, _⟩ := shown_true h
  have h6 := h3.neg
  obtain ⟨⟨g1, g2⟩, g3⟩ := h4
  have hd : B * B - 4 * A * C ≤ -3 := by
    have e := h3.dis
    have : (B * B) % 4 = 0 ∨ (B * B) % 4 = 1 := by
      rcases Int.emod_two_eq B with hB | hB
      · obtain ⟨k, hk⟩ : ∃ k, B = 2 * k := ⟨B / 2, by omega⟩
        left; rw [hk, show 2 * k * (2 * k) = 4 * (k * k) by grind]; omega
      · obtain ⟨k, hk⟩ : ∃ k, B = 2 * k + 1 := ⟨B / 2, by omega⟩
        right; rw [hk, show (2 * k + 1) * (2 * k + 1) = 4 * (k * k + k) + 1 by grind]; omega
    have e2 : 4 * A * C = 4 * (A * C) := by grind
    omega
  refine ⟨A, B, C, by simp only [r_impl_reduced, h1, Option.bind_some], by simp only [r_spec_reClass, h2, Option.bind_some], ⟨h3.a1, by omega, g2, by omega, ?_, hd⟩⟩
  rw [h3.dis]
  exact h5
theorem thL_tab (A B C : Int) (n : Nat) : thL A B C n = tabF (tcF A B C) n := rfl
theorem theta_both {f : Int × Int × Int} (h : r_impl_isShownForm f = some true) : ∃ A B C, Rf A B C ∧ ∀ n : Nat, n ≤ 100 → r_impl_Form_theta f (n : Int) = some (tabF (tcF A B C) n) ∧ r_spec_thSeries f (n : Int) = some (tabF (tcF A B C) n) := by
  obtain ⟨a, b, c⟩ := f
  obtain ⟨A, B, C, h1, h2, h3⟩ := rf_of h
  refine ⟨A, B, C, h3, fun n hn => ⟨?_, ?_⟩⟩
  · have hF := FUge
    have := theta_run h3 hn n FU 1 (by omega) (by omega) (by omega)
    have e1 : ((List.range 1).map fun m => (TC A B C m : Int)) = [1] := by
      rw [show List.range 1 = [0] from rfl, List.map_cons, List.map_nil, TC_zero h3]
      rfl
    rw [e1] at this
    have e2 : (((1 : Nat) : Int)) = 1 := rfl
    rw [e2] at this
    simp only [r_impl_Form_theta, h1, Option.bind_some, this, thL_tab]
  · have e1 : w64 ((n : Int) + 1) = ((n + 1 : Nat) : Int) := by rw [w64_in (by omega)]; push_cast; rfl
    simp only [r_spec_thSeries, e1, mkN (show n + 1 ≤ 1000000 by omega), h2, Option.bind_some, Int.toNat_natCast, thS_val h3 hn, thL_tab]
theorem checked_val {l : List Int} (hl : l.length < 1000000) (h : l.all inN = true) : r_impl_checkedSeries l = some (l, true) := by
  simp only [r_impl_checkedSeries, num_val l hl, h, Option.bind_some, Bool.not_true, cond_false]
theorem cvL2_in {A B C A' B' C' : Int} (h : ∀ p, 0 ≤ vT A B C p) (n : Nat) : (cvL2 (tcF A B C) (tcF A' B' C') n).all inN = true := by
  rw [List.all_eq_true]
  intro x hx
  unfold cvL2 tabF at hx
  obtain ⟨t, _, rfl⟩ := List.mem_map.1 hx
  have := (sml_tc (A' := A') (B' := B') (C' := C') h n).c t (t + 1)
  rw [inN_iff]
  omega
theorem pair_val {f g : Int × Int × Int} (hf : r_impl_isShownForm f = some true) (hg : r_impl_isShownForm g = some true) : ∃ A B C A' B' C', Rf A B C ∧ Rf A' B' C' ∧ (∀ n : Nat, n ≤ 100 → r_impl_Form_theta f (n : Int) = some (tabF (tcF A B C) n) ∧ r_spec_thSeries f (n : Int) = some (tabF (tcF A B C) n)) ∧ (∀ n : Nat, n ≤ 100 → r_impl_Form_theta g (n : Int) = some (tabF (tcF A' B' C') n) ∧ r_spec_thSeries g (n : Int) = some (tabF (tcF A' B' C') n)) ∧
    ∀ n : Nat, n ≤ 100 → r_impl_PairSeries f g (n : Int) = some (cvL2 (tcF A B C) (tcF A' B' C') n, true) ∧ r_spec_PairSeries f g (n : Int) = some (cvL2 (tcF A B C) (tcF A' B' C') n, true) := by
  obtain ⟨A, B, C, h1, h2⟩ := theta_both hf
  obtain ⟨A', B', C', h3, h4⟩ := theta_both hg
  refine ⟨A, B, C, A', B', C', h1, h3, h2, h4, fun n hn => ?_⟩
  have hs := sml_tc (A' := A') (B' := B') (C' := C') h1.nn n
  have ht : r_impl_isTerms (n : Int) = some true := by
    simp only [r_impl_isTerms, leI_eq]
    rw [decide_eq_true (by omega), decide_eq_true (by omega)]
    rfl
  have ht2 : r_spec_thTerms (n : Int) = some true := by
    simp only [r_spec_thTerms, r_spec_l1In, leI_eq, Option.bind_some]
    rw [decide_eq_true (by omega), decide_eq_true (by omega)]
    rfl
  constructor
  · simp only [r_impl_PairSeries, hf, hg, ht, (h2 n hn).1, (h4 n hn).1, product_val hs hn, Option.bind_some, Bool.not_true, cond_false, checked_val (l := cvL2 (tcF A B C) (tcF A' B' C') n) (by unfold cvL2; rw [tabF_len]; omega) (cvL2_in h1.nn n)]
  · simp only [r_spec_PairSeries, shown_val, hf, hg, ht2, (h2 n hn).2, (h4 n hn).2, sproduct_val hs hn, Option.bind_some, Bool.not_true, cond_false]
theorem terms_eq (n : Int) : r_spec_thTerms n = r_impl_isTerms n := rfl
theorem pair_not {f g : Int × Int × Int} {n : Int} (h : ¬ (r_impl_isShownForm f = some true ∧ r_impl_isShownForm g = some true ∧ r_impl_isTerms n = some true)) : r_impl_PairSeries f g n = some ([], false) ∧ r_spec_PairSeries f g n = some ([], false) := by
  simp only [r_impl_PairSeries, r_spec_PairSeries, shown_val, terms_eq]
  obtain ⟨b1, e1⟩ := shown_some f
  obtain ⟨b2, e2⟩ := shown_some g
  have e3 : ∃ b3, r_impl_isTerms n = some b3 := ⟨_, rfl⟩
  obtain ⟨b3, e3⟩ := e3
  rw [e1, e2, e3] at h
  rw [e1, e2, e3]
  cases b1 <;> cases b2 <;> cases b3 <;> simp_all
/-! ### Lists that agree -/
theorem ints_run (l : List Int) (hl : l.length ≤ 1000000) : ∀ (k fu i : Nat), i + k = l.length → k < fu → r_laws_sameInts_L5 l l fu (i : Int) = some (.inl ())
  | k, 0, i, _, hf => by omega
  | 0, fu + 1, i, hi, hf => by rw [r_laws_sameInts_L5, ltI_eq, decide_eq_false (by omega), cond_false]
  | k + 1, fu + 1, i, hi, hf => by
    rw [r_laws_sameInts_L5, ltI_eq, decide_eq_true (by omega), cond_true, getNat (show i < l.length by omega)]
    simp only [Option.bind_some, eqSelf, Bool.not_true, cond_false, sI_eq, wsucc (show i < 1000000000 by omega)]
    exact ints_run l hl k fu (i + 1) (by omega) (by omega)
theorem ints_self (l : List Int) (hl : l.length < 1000000) : r_laws_sameInts l l = some true := by
  have hF := FUge
  have := ints_run l (by omega) l.length FU 0 (by omega) (by omega)
  have e0 : (((0 : Nat) : Int)) = 0 := rfl
  rw [e0] at this
  simp only [r_laws_sameInts, eqSelf, Bool.not_true, cond_false, this, Option.bind_some]
/-! ### First differences -/
theorem fd_eq (a b : List Int) : ∀ (fu : Nat) (t : Int), r_spec_FirstDifference_L11 a b fu t = r_impl_FirstDifference_L11 a b fu t
  | 0, t => rfl
  | fu + 1, t => by
    rw [r_spec_FirstDifference_L11, r_impl_FirstDifference_L11]
    simp only [sI_eq, fd_eq a b fu]
theorem fd_run (F G : Nat → Int) : ∀ (k fu i : Nat), i + k = 101 → k < fu → (∀ j, j < i → F j = G j) →
    (r_impl_FirstDifference_L11 (tabF F 100) (tabF G 100) fu (i : Int) = some (.inl ()) ∧ ∀ j, j ≤ 100 → F j = G j) ∨ ∃ m : Nat, m ≤ 100 ∧ r_impl_FirstDifference_L11 (tabF F 100) (tabF G 100) fu (i : Int) = some (.inr ((m : Int), true)) ∧ F m ≠ G m ∧ ∀ j, j < m → F j = G j
  | k, 0, i, _, hf, _ => by omega
  | 0, fu + 1, i, hi, hf, hj => by
    left
    rw [r_impl_FirstDifference_L11, tabF_len, ltI_eq, decide_eq_false (by omega), cond_false]
    exact ⟨rfl, fun j h => hj j (by omega)⟩
  | k + 1, fu + 1, i, hi, hf, hj => by
    rw [r_impl_FirstDifference_L11, tabF_len, ltI_eq, decide_eq_true (by omega), cond_true, tabF_get (by omega), tabF_get (by omega)]
    simp only [Option.bind_some, sI_eq, wsucc (show i < 1000000000 by omega)]
    by_cases h : F i = G i
    · rw [h, eqSelf]
      exact fd_run F G k fu (i + 1) (by omega) (by omega) fun j hh => by
        by_cases e : j = i
        · rw [e]; exact h
        · exact hj j (by omega)
    · rw [eqNe h]
      right
      exact ⟨i, by omega, rfl, h, hj⟩
theorem fd_val {f g : Int × Int × Int} {F G : Nat → Int} (hf : r_impl_isShownForm f = some true) (hg : r_impl_isShownForm g = some true) (h2 : ∀ n : Nat, n ≤ 100 → r_impl_Form_theta f (n : Int) = some (tabF F n) ∧ r_spec_thSeries f (n : Int) = some (tabF F n)) (h4 : ∀ n : Nat, n ≤ 100 → r_impl_Form_theta g (n : Int) = some (tabF G n) ∧ r_spec_thSeries g (n : Int) = some (tabF G n)) :
    ∃ (m : Nat) (b : Bool), r_impl_FirstDifference f g = some ((m : Int), b) ∧ r_spec_FirstDifference f g = some ((m : Int), b) ∧ (b = false → ∀ j, j ≤ 100 → F j = G j) ∧ (b = true → F m ≠ G m ∧ ∀ j, j < m → F j = G j) := by
  have hF := FUge
  have t1 : r_impl_Form_theta f 100 = some (tabF F 100) := (h2 100 (by omega)).1
  have t2 : r_spec_thSeries f 100 = some (tabF F 100) := (h2 100 (by omega)).2
  have t3 : r_impl_Form_theta g 100 = some (tabF G 100) := (h4 100 (by omega)).1
  have t4 : r_spec_thSeries g 100 = some (tabF G 100) := (h4 100 (by omega)).2
  have e0 : (((0 : Nat) : Int)) = 0 := rfl
  rcases fd_run F G 101 FU 0 (by omega) (by omega) (fun j h => by omega) with ⟨h5, h6⟩ | ⟨m, hm, h5, h6, h7⟩
  · rw [e0] at h5
    refine ⟨0, false, ?_, ?_, fun _ => h6, fun h => by cases h⟩
    · simp only [r_impl_FirstDifference, hf, hg, t1, t3, h5, Option.bind_some, Bool.not_true, cond_false]
      rfl
    · simp only [r_spec_FirstDifference, shown_val, hf, hg, t2, t4, fd_eq, h5, Option.bind_some, Bool.not_true, cond_false]
      rfl
  · rw [e0] at h5
    refine ⟨m, true, ?_, ?_, fun h => (by cases h), fun _ => ⟨h6, h7⟩⟩
    · simp only [r_impl_FirstDifference, hf, hg, t1, t3, h5, Option.bind_some, Bool.not_true, cond_false]
    · simp only [r_spec_FirstDifference, shown_val, hf, hg, t2, t4, fd_eq, h5, Option.bind_some, Bool.not_true, cond_false]
theorem chk_run (more : List Int) {n : Nat} (hn : n ≤ 100) {F G : Nat → Int} {m : Nat} {b : Bool} (h1 : b = false → ∀ j, j ≤ 100 → F j = G j) (h2 : b = true → F m ≠ G m ∧ ∀ j, j < m → F j = G j) : ∀ (k fu i : Nat), i + k = n + 1 → k < fu →
    r_laws_FnSeriesProducts_L28 more (tabF F n, true) (tabF G n, true) ((m : Int), b) fu (i : Int) = some (.inl ())
  | k, 0, i, _, hf => by omega
  | 0, fu + 1, i, hi, hf => by
    rw [r_laws_FnSeriesProducts_L28]
    dsimp only
    rw [tabF_len, ltI_eq, decide_eq_false (by omega), cond_false]
  | k + 1, fu + 1, i, hi, hf => by
    rw [r_laws_FnSeriesProducts_L28]
    dsimp only
    rw [tabF_len, ltI_eq, decide_eq_true (by omega), cond_true, tabF_get (by omega), tabF_get (by omega)]
    simp only [Option.bind_some, sI_eq, wsucc (show i < 1000000000 by omega)]
    have go := chk_run more hn h1 h2 k fu (i + 1) (by omega) (by omega)
    cases b with
    | false =>
      rw [h1 rfl i (by omega), eqSelf]
      simpa using go
    | true =>
      obtain ⟨h3, h4⟩ := h2 rfl
      rcases Nat.lt_trichotomy i m with h | h | h
      · rw [h4 i h, eqSelf, eqNe (show (i : Int) ≠ (m : Int) by omega)]
        simpa using go
      · subst h
        rw [eqNe h3, eqSelf, ltI_eq, decide_eq_false (by omega)]
        simpa [eqNe h3] using go
      · rw [ltI_eq, decide_eq_false (by omega), eqNe (show (i : Int) ≠ (m : Int) by omega)]
        cases eqI (F i) (G i) <;> simpa using go
/-! ### Four squares -/
theorem sq_shown : r_impl_isShownForm (1, 0, 1) = some true := by decide +kernel
theorem two_eq : r_impl_Form_theta (1, 0, 1) 100 = some two := by decide +kernel
theorem cvL_eq {F : Nat → Int} {n : Nat} {l : List Int} (hl : l = tabF F n) {k : Nat} (hk : k ≤ n) : ∀ (i : Nat) (s : Int), i ≤ k + 1 → cvL l k i s = s + (((List.range i).map fun j => F j * F (k - j)).sum)
  | 0, s, _ => by simp [cvL]
  | i + 1, s, hi => by
    have g : ∀ j, j ≤ n → l.getD j 0 = F j := by
      intro j hj
      rw [hl]
      simp [tabF, List.getD_eq_getElem?_getD, List.getElem?_range (show j < n + 1 by omega)]
    rw [cvL, cvL_eq hl hk i _ (by omega), g i (by omega), g (k - i) (by omega), List.range_succ, List.map_append, List.sum_append]
    simp only [List.map_cons, List.map_nil, List.sum_cons, List.sum_nil]
    omega
theorem cvF_eq (F G : Nat → Int) (t : Nat) : ∀ i : Nat, cvF F G t i = (((List.range i).map fun j => F j * G (t - j)).sum)
  | 0 => by simp [cvF]
  | i + 1 => by
    rw [cvF, cvF_eq F G t i, List.range_succ, List.map_append, List.sum_append]
    simp
theorem four_val {k : Nat} (hk : k ≤ 100) : ∃ q a, r_impl_PairSeries (1, 0, 1) (1, 0, 1) (k : Int) = some (q, true) ∧ q.length = k + 1 ∧ getI q (k : Int) = some a ∧ r_impl_CountFour (k : Int) = some (a, true) ∧ r_spec_CountFour (k : Int) = some (a, true) := by
  obtain ⟨A, B, C, A', B', C', h1, h2, h3, h4, h5⟩ := pair_val sq_shown sq_shown
  have e1 := (h3 100 (by omega)).1
  have e2 := (h4 100 (by omega)).1
  have e3 : r_impl_Form_theta (1, 0, 1) ((100 : Nat) : Int) = some two := two_eq
  have e4 : tabF (tcF A B C) 100 = two := some_inj (e1.symm.trans e3)
  have e5 : tabF (tcF A' B' C') 100 = two := some_inj (e2.symm.trans e3)
  have hFG : ∀ j, j ≤ 100 → tcF A' B' C' j = tcF A B C j := by
    intro j hj
    have a1 := tabF_get (F := tcF A B C) (n := 100) hj
    have a2 := tabF_get (F := tcF A' B' C') (n := 100) hj
    rw [e4] at a1
    rw [e5, a1] at a2
    exact (some_inj a2).symm
  have ht := sq_tab k hk
  unfold sqO at ht
  have hcv : cvL two k (k + 1) 0 = cvF (tcF A B C) (tcF A' B' C') k (k + 1) := by
    have hmap : ((List.range (k + 1)).map fun j => tcF A B C j * tcF A B C (k - j)) = (List.range (k + 1)).map fun j => tcF A B C j * tcF A' B' C' (k - j) := List.map_congr_left fun j hj => by
      rw [List.mem_range] at hj
      rw [hFG (k - j) (by omega)]
    rw [cvL_eq e4.symm hk (k + 1) 0 (by omega), cvF_eq, Int.zero_add, hmap]
  refine ⟨cvL2 (tcF A B C) (tcF A' B' C') k, cvF (tcF A B C) (tcF A' B' C') k (k + 1), (h5 k hk).1, by unfold cvL2; rw [tabF_len], by unfold cvL2; rw [tabF_get (Nat.le_refl k)], ?_⟩
  rw [hcv] at ht
  generalize r_impl_CountFour (k : Int) = x at ht
  generalize r_spec_CountFour (k : Int) = y at ht
  match x, y, ht with
  | some (a, true), some (b, true), ht =>
    have ht : (bif eqI a b then eqI (cvF (tcF A B C) (tcF A' B' C') k (k + 1)) a else false) = true := ht
    cases h6 : eqI a b with
    | false => rw [h6] at ht; cases ht
    | true =>
      rw [h6, cond_true] at ht
      rw [eqI_eq, beq_iff_eq] at h6 ht
      rw [ht, ← h6]
      exact ⟨rfl, rfl⟩
theorem raw_FnSeriesProducts (code more : List Int) (hc8 : ∀ x ∈ code, 0 ≤ x ∧ x ≤ 255) (hm8 : ∀ x ∈ more, 0 ≤ x ∧ x ≤ 255) : r_laws_FnSeriesProducts code more = some true := by
  rcases big_cases code more with hb | ⟨hb, hc, hm⟩
  · simp only [r_laws_FnSeriesProducts, hb, Option.bind_some, cond_true]
  obtain ⟨f, c1, e1, h1⟩ := shownForm_ok (CurB.start hc hc8) (by omega)
  obtain ⟨g, c2, e2, h2⟩ := shownForm_ok h1 (by omega)
  obtain ⟨n, c3, e3, h3⟩ := terms_ok h2 (by omega)
  have ed : r_spec_DrawPairSeries code = some (f, g, n) := by simp only [r_spec_DrawPairSeries, e1, e2, e3, Option.bind_some]
  obtain ⟨z, ez, z0, z1⟩ := numberOf_ok hm hm8
  have hF := FUge
  have ht0 : 0 ≤ Int.tmod z 101 := (tmod_range z0 (by omega)).1
  have ht1 : Int.tmod z 101 < 101 := (tmod_range z0 (by omega)).2
  obtain ⟨k, hk⟩ := Int.eq_ofNat_of_zero_le ht0
  have hk2 : k ≤ 100 := by omega
  obtain ⟨q, a, q1, q2, q3, q4, q5⟩ := four_val hk2
  have fin : ((r_laws_numberOf more).bind fun y44 =>
            sI (Int.tmod y44 101) fun k45 =>
            (r_impl_PairSeries ((1, 0, 1)) ((1, 0, 1)) k45).bind fun y46 =>
            (r_impl_CountFour k45).bind fun y47 =>
            (r_spec_CountFour k45).bind fun y48 =>
            (bif (bif (bif (bif (bif y46.2 then (eqI ((y46.1.length : Int)) (w64 (k45 + 1))) else false) then y47.2 else false) then y48.2 else false) then (eqI y47.1 y48.1) else false) then ((getI y46.1 k45).bind fun e54 => some (eqI e54 y47.1)) else some false).bind fun b55 =>
            some b55) = some true := by
    rw [ez]
    simp only [Option.bind_some, sI_eq, hk, q1, q4, q5, q2, wsucc (show k < 1000000000 by omega), eqSelf, cond_true, q3]
  simp only [r_laws_FnSeriesProducts, hb, ed, Option.bind_some, cond_false]
  by_cases hok : r_impl_isShownForm f = some true ∧ r_impl_isShownForm g = some true ∧ r_impl_isTerms n = some true
  · obtain ⟨hf, hg, hn⟩ := hok
    have hn2 : 0 ≤ n ∧ n ≤ 100 := by
      have hn' : (bif leI 0 n then leI n 100 else false) = true := some_inj hn
      rw [leI_eq, leI_eq] at hn'
      by_cases a : 0 ≤ n <;> by_cases b : n ≤ 100 <;> simp [a, b] at hn' ⊢
    obtain ⟨m, rfl⟩ := Int.eq_ofNat_of_zero_le hn2.1
    have hm100 : m ≤ 100 := by omega
    obtain ⟨A, B, C, A', B', C', r1, r2, r3, r4, r5⟩ := pair_val hf hg
    obtain ⟨w1, w2⟩ := r5 m hm100
    have len : ∀ F : Nat → Int, (tabF F m).length < 1000000 := fun F => by rw [tabF_len]; omega
    have th1 : r_impl_ThetaSeries f (m : Int) = some (tabF (tcF A B C) m, true) := by
      simp only [r_impl_ThetaSeries, hf, hn, (r3 m hm100).1, Option.bind_some, Bool.not_true, cond_false]
    have th2 : r_impl_ThetaSeries g (m : Int) = some (tabF (tcF A' B' C') m, true) := by
      simp only [r_impl_ThetaSeries, hg, hn, (r4 m hm100).1, Option.bind_some, Bool.not_true, cond_false]
    have isS : ∀ A B C : Int, r_impl_isSeries (tabF (tcF A B C) m) = some true := by
      intro A B C
      have hin : (tabF (tcF A B C) m).all inN = true := by
        rw [List.all_eq_true]
        intro x hx
        obtain ⟨t, _, rfl⟩ := List.mem_map.1 hx
        have := TC_le A B C t
        rw [inN_iff]
        unfold tcF
        omega
      simp only [r_impl_isSeries, tabF_len, leI_eq, num_val _ (len _), hin]
      rw [decide_eq_true (by omega), decide_eq_true (by omega)]
      rfl
    have hs := sml_tc (A' := A') (B' := B') (C' := C') r1.nn m
    have pr : r_impl_SeriesProduct (tabF (tcF A B C) m) (tabF (tcF A' B' C') m) = some (cvL2 (tcF A B C) (tcF A' B' C') m, true) := by
      simp only [r_impl_SeriesProduct, isS, product_val hs hm100, Option.bind_some, Bool.not_true, cond_false, checked_val (l := cvL2 (tcF A B C) (tcF A' B' C') m) (len _) (cvL2_in r1.nn m)]
    obtain ⟨u, b, fd1, fd2, fd3, fd4⟩ := fd_val hf hg r3 r4
    have hrun := chk_run more hm100 fd3 fd4 (m + 1) FU 0 (by omega) (by omega)
    have e0 : (((0 : Nat) : Int)) = 0 := rfl
    rw [e0] at hrun
    simp only [w1, w2, Option.bind_some, bne_self_eq_false, cond_false, ints_self _ (len (fun t => cvF (tcF A B C) (tcF A' B' C') t (t + 1))), show cvL2 (tcF A B C) (tcF A' B' C') m = tabF (fun t => cvF (tcF A B C) (tcF A' B' C') t (t + 1)) m from rfl] at *
    simp only [Bool.not_true, cond_false, cond_true, th1, th2, Option.bind_some, pr, ints_self _ (len (fun t => cvF (tcF A B C) (tcF A' B' C') t (t + 1))), fd1, fd2, bne_self_eq_false, eqSelf, hrun]
    exact fin
  · obtain ⟨w1, w2⟩ := pair_not hok
    have hnil : r_laws_sameInts [] [] = some true := ints_self [] (by simp)
    simp only [w1, w2, Option.bind_some, bne_self_eq_false, cond_false, hnil, Bool.not_true]
    exact fin
end Go.Proofs.Ytgeajejmikaniaa
